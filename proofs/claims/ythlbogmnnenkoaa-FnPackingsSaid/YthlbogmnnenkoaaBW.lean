/- All parts of a bag: the reference's function. -/
import Derived.Test.YthlbogmnnenkoaaBU
namespace Go.Proofs.Ythlbogmnnenkoaa
open Go.RowKit

theorem run_app_nil {P : Program} {T E k bytes : Nat} {z : Value} {ty : TypeId} (tab : Tab P T E z k bytes) (w : World) (a : Option Addr) (n c c' : Nat) (hn : n ≤ c) :
    (Builtin.append_ #[T, T] ty #[.slice a n c, .slice none 0 c']).run P w = .ok (.slice a n c) w := by
  obtain ⟨i0, hi, hz0, hz1, hz2⟩ := info_parts tab.info
  have hu := tab.under
  cases a <;> simp [Builtin.append_, run_underlying hu, sizeOf, typeInfo, hi, Sem.run_bind, Builtin.lenOf, Builtin.firstCells, hn, storeCells]
theorem Bld.cap {E : Nat} {w : World} {B : Nat} {v : Value} {vs : List Value} (h : Bld E w B v vs) : ∃ a c, v = .slice a vs.length c ∧ vs.length ≤ c := by
  obtain ⟨_, h2⟩ := h
  rcases h2 with ⟨rfl, h0⟩ | ⟨g, cap, cur, rfl, hB, hg, hn, _⟩
  · have : vs = [] := by simpa using h0
    subst this
    exact ⟨none, 0, rfl, by simp⟩
  · exact ⟨_, cap, rfl, hn⟩
/-- 'append(v, xs...)' of numbers; xs may be nil. -/
theorem app_manyN {P : Program} {ops : Array Oper} {rest : List Oper} {o : Oper} {ac : Act} {Q : Exit → Act → World → Prop} {w : World} (hgd : o.guard = none) (s x : Operand) (T : TypeId)
    (ho : o.op = .call { callee := .builtin .append, args := #[s, x], argTypes := #[T, T] }) {E bytes : Nat} {z : Value} (tab : Tab P T E z 1 bytes) (hzs : z.cells.size = 1) (hby : bytes ≤ 1024)
    (B : Nat) (v : Value) (vs : List Value) (hs : ac.eval s = v) (hown : Bld E w B v vs) (S : Nat → Prop) (a : Option Addr) (c : Nat) (xs : List Int) (hx : ac.eval x = .slice a xs.length c) (hsl : SlI S w a xs) (hlen : vs.length + xs.length < 4294967296) (hB : B ≤ w.heap.size)
    (K : ∀ v' w', Bld E w' B v' (vs ++ xs.map (.int .i64)) → Below B w w' → wpList P ops Q rest (ac.put o.dst v') w') : wpList P ops Q (o :: rest) ac w := by
  cases a with
  | some ad => exact app_many hgd s x T ho tab hzs hby B v vs hs hown S (some ad) c xs hx hsl ⟨ad, rfl⟩ hlen hB K
  | none =>
    have hx0 : xs = [] := by
      cases xs with
      | nil => rfl
      | cons y ys => obtain ⟨g, p, e⟩ := (hsl.ptr (by simp)).2; cases e
    subst hx0
    obtain ⟨a', c', rfl, hc⟩ := hown.cap
    refine wpList_plain hgd fun _ hK => ?_
    have e := run_app_nil (P := P) (ty := o.type) tab w a' vs.length c' c hc
    unfold Oper.wp execOp
    simp only [ho, resolve, invoke, builtin, Sem.run_bind, Sem.run_pure, Result.andThen_ok, List.map_toArray, List.map_cons, List.map_nil, hs, hx]
    simp only [List.length_nil, e, Result.andThen_ok]
    exact hK _ _ (K _ w (by simpa using hown) (Below.refl _ _))
set_option maxHeartbeats 400000 in
theorem l00OwnN_c (S : Nat → Prop) (a : Option Addr) (c : Nat) (xs : List Int) (w : World) (hx : SlI S w a xs) (l1 : xs.length < 4294967296) :
    Calls Try.prog 119 #[.slice a xs.length c] w (RetB 2 w xs) := by
  have hbl := Bld.empty 2 w w.heap.size (Nat.le_refl _)
  have hx' := hx.below (below_alloc w (.cells #[] 2))
  go_enter Try.func119, Try.ntmps119
  go_wp2_with (at_builtin; refine app_manyN rfl _ _ 34 rfl tabI rfl (by decide) w.heap.size _ [] rfl hbl S a c xs rfl hx' (by simpa using l1) (by simp) ?_)
  intro v' w1 hbl1 hb1
  replace hbl1 : Bld 2 w1 w.heap.size v' (xs.map (.int .i64)) := hbl1
  go_wp2
  go_ret
  exact ⟨v', rfl, (below_alloc _ _).trans hb1, hbl1⟩
/-- The list of lists as what is read. -/
theorem Lst.slII {E : TypeId} {w : World} {B : Nat} {v : Value} {L : List (List Int)} {G : List Nat} (h : Lst E 1 w B v L.length (L.map dI) G) (hl : L.length ≤ maxLen) : ∃ a c, v = .slice a L.length c ∧ SlII Any w a L := by
  obtain ⟨_, a, c, rfl⟩ := h.val
  obtain ⟨G', ho, _, _⟩ := h.ow (by omega) hl
  exact ⟨a, c, rfl, Ow.argII ho⟩
/-- A list of one empty list. -/
theorem Lst.unit (E0 E : TypeId) (w : World) : Lst E 1 ((w.alloc (.cells #[] E0)).alloc (.cells #[.slice (some ⟨w.heap.size, 0, none⟩) 0 0] E)) w.heap.size (.slice (some ⟨w.heap.size + 1, 0, none⟩) 1 1) 1 [dI []] [w.heap.size + 1] := by
  refine ⟨[.slice (some ⟨w.heap.size, 0, none⟩) 0 0], [], ⟨by simp, .inr ⟨w.heap.size + 1, 1, #[.slice (some ⟨w.heap.size, 0, none⟩) 0 0], rfl, by omega, ?_, by omega, by simp [maxLen], by simp, by simp⟩⟩, ⟨[], [], Ow_empty _ _ _ _, rfl, rfl⟩, by simp, by simp, by simp, rfl⟩
  have := heap_alloc_new (w.alloc (.cells #[] E0)) (.cells #[.slice (some ⟨w.heap.size, 0, none⟩) 0 0] E)
  simpa using this

/-- A list with each of the first numbers behind it. -/
def extS (x : List Int) (n : Nat) : List (List Int) := (List.range n).map fun (n : Nat) => x ++ [(n : Int)]
theorem extS_succ (x : List Int) (n : Nat) : extS x (n + 1) = extS x n ++ [x ++ [(n : Int)]] := by simp [extS, List.range_succ]
theorem extS_len (x : List Int) (n : Nat) : (extS x n).length = n := by simp [extS]
def rowsTo (l : Nat) (L : List (List Int)) (k : Nat) : List (List Int) := (L.take k).flatMap fun x => extS x (l + 1)
theorem rowsTo_succ {l : Nat} {L : List (List Int)} {k : Nat} (h : k < L.length) : rowsTo l L (k + 1) = rowsTo l L k ++ extS (nthR L k) (l + 1) := by
  rw [rowsTo, List.take_succ_eq_append_getElem h, List.flatMap_append, nthR_lt h]; simp [rowsTo]
theorem rowsTo_len (l : Nat) (L : List (List Int)) : ∀ k, k ≤ L.length → (rowsTo l L k).length = k * (l + 1)
  | 0, _ => by simp [rowsTo]
  | k + 1, h => by rw [rowsTo_succ (by omega), List.length_append, rowsTo_len l L k (by omega), extS_len, Nat.add_mul]; omega
/-- All lists within the first i numbers of a list. -/
def lvTo (b : List Int) : Nat → List (List Int)
  | 0 => [[]]
  | i + 1 => (lvTo b i).flatMap fun x => extS x ((nth b i).toNat + 1)
theorem lvTo_succ (b : List Int) (i : Nat) : lvTo b (i + 1) = rowsTo (nth b i).toNat (lvTo b i) (lvTo b i).length := by simp [lvTo, rowsTo]
theorem lvTo_parts (b : List Int) : ∀ i, i ≤ b.length → partsS b = (lvTo b i).flatMap fun x => (partsS (b.drop i)).map (x ++ ·)
  | 0, _ => by simp [lvTo]
  | i + 1, h => by
    rw [lvTo_parts b i (by omega), show b.drop i = nth b i :: b.drop (i + 1) from by rw [nth_lt (by omega), List.drop_eq_getElem_cons (by omega)]]
    simp only [lvTo, partsS, extS, List.flatMap_assoc, List.map_flatMap, List.flatMap_map, List.map_map]
    congr 1; funext x; congr 1; funext n; congr 1; funext y; simp
theorem partsS_ne : ∀ bs : List Int, 1 ≤ (partsS bs).length
  | [] => by simp [partsS]
  | b :: bs => by
    have := partsS_ne bs
    simp only [partsS, List.range_succ_eq_map, List.flatMap_cons, List.length_append, List.length_map]
    omega
theorem flatMap_ge {α β : Type} (f : α → List β) (h : ∀ x, 1 ≤ (f x).length) : ∀ l : List α, l.length ≤ (l.flatMap f).length
  | [] => by simp
  | x :: l => by have := h x; have := flatMap_ge f h l; simp only [List.flatMap_cons, List.length_append, List.length_cons]; omega
theorem lvTo_le (b : List Int) {i : Nat} (h : i ≤ b.length) : (lvTo b i).length ≤ (partsS b).length := by
  rw [lvTo_parts b i h]
  exact flatMap_ge _ (fun x => by have := partsS_ne (b.drop i); simpa using this) _
theorem lvTo_mem (b : List Int) : ∀ (i : Nat) (x : List Int), x ∈ lvTo b i → x.length = i
  | 0, x, h => by simp [lvTo] at h; subst h; rfl
  | i + 1, x, h => by
    simp only [lvTo, extS, List.mem_flatMap, List.mem_map] at h
    obtain ⟨y, hy, n, _, rfl⟩ := h
    simp [lvTo_mem b i y hy]
theorem Lst.lower {E : TypeId} {k : Nat} {w : World} {B B' : Nat} {v : Value} {n : Nat} {ds : List D} {G : List Nat} (h : Lst E k w B v n ds G) (hB : B' ≤ B) : Lst E k w B' v n ds G := by
  obtain ⟨vs, F, ⟨h0, h1⟩, h2, h3, h4, h5, h6⟩ := h
  refine ⟨vs, F, ⟨h0, ?_⟩, h2, h3, fun g hg => Nat.le_trans hB (h4 g hg), h5, h6⟩
  rcases h1 with h1 | ⟨g, cap, cur, e, h7, h8⟩
  · exact .inl h1
  · exact .inr ⟨g, cap, cur, e, Nat.le_trans hB h7, h8⟩
theorem lvTo_full (b : List Int) : lvTo b b.length = partsS b := by
  rw [lvTo_parts b b.length (Nat.le_refl _), List.drop_length]
  simp [partsS]
set_option maxHeartbeats 4000000 in
set_option maxRecDepth 100000 in
theorem specPartsOf_d (b : List Int) {v : Value} (w : World) (h : Rd Any w (dI b) v) :
    Calls Try.prog 59 #[v] w (RetLists w (partsOfS b)) := by
  obtain ⟨ab, cb, rfl, hx⟩ := Rd_I.1 h
  clear h
  cases h1 : isBagS b
  · have e : partsOfS b = ([], 1) := by simp [partsOfS, h1]
    rw [e]
    have H1 := Lib.hid h1
    clear h1 e
    go_enter Try.func59, Try.ntmps59
    go_wp2_with fail
    refine (l01Bag_c Any ab cb b _ hx).mono ?_
    rintro e w' ⟨rfl, rfl⟩
    rw [H1.out]
    go_wp2
    go_ret2
    exact RetDC.none _ _ _ (below_alloc _ _)
  · have hb8 := isBagS_len h1
    have e : partsOfS b = lim (partsS b) := by simp [partsOfS, h1]
    have HBB : Hid (∀ j, j < b.length → 0 ≤ nth b j ∧ nth b j ≤ 1000) := Lib.hid (fun j hj => isBagS_at h1 hj)
    rw [e]
    have H1 := Lib.hid h1
    have HX := Lib.hid hx
    have ib := hx.ix tabI.under tabI.size cb
    have HU := Lib.hid (Lst.unit 2 34 w)
    clear h1 e hx
    go_enter Try.func59, Try.ntmps59
    go_wp2_with fail
    refine (l01Bag_c Any ab cb b _ HX.out).mono ?_
    rintro e w' ⟨rfl, rfl⟩
    rw [H1.out]
    go_wp2
    go_loopw [4, 5, 6, 7, 8] (fun vo i _ _ _ wr => ∃ (k : Nat) (L : List (List Int)) (G : List Nat), k ≤ b.length ∧ i = .int .i64 k ∧ Hid (L = lvTo b k) ∧ L.length ≤ 2000 ∧ Below w.heap.size w wr ∧ Lst 34 1 wr w.heap.size vo L.length (L.map dI) G) (fun _ i _ _ _ _ => b.length - (intOf i).toNat)
    case atStart => exact ⟨0, [[]], _, by omega, rfl, Lib.hid rfl, by simp, by repeat (first | exact Below.refl _ _ | refine Below.alloc ?_ (by simp <;> omega) _), HU.out⟩
    case round =>
      obtain ⟨k, L, G, hk, rfl, hL, hn, hw, hLs⟩ := hrel
      obtain ⟨ao, co, rfl, hII⟩ := hLs.slII (by unfold maxLen; omega)
      have HW := Lib.hid hw
      have HLS := Lib.hid hLs
      by_cases hlt : k < b.length
      · obtain ⟨l, hl⟩ : ∃ l : Nat, nth b k = l := ⟨(nth b k).toNat, by have := HBB.out k hlt; omega⟩
        have hl1 : l ≤ 1000 := by have := HBB.out k hlt; omega
        have HL0 := Lib.hid hl
        have HCELL : Hid (∀ wr, Below w.heap.size w wr → wr.cell? (adr ab k) = some (.int .i64 l)) := Lib.hid (fun wr h => by rw [← hl]; exact (HX.out.below h).cell k hlt)
        obtain ⟨wo, hwo⟩ : ∃ wo : World, wo = wr := ⟨_, rfl⟩
        subst hwo
        have hz0 := hw.size
        have HNIL := Lib.hid (Lst.made 34 1 wo wo.heap.size (Nat.le_refl _))
        have HII := Lib.hid hII
        have io := hII.ix tabII.under tabII.size co
        clear hw hLs hII hl
        go_wp2
        go_loopw [6, 7, 8] (fun vn q _ wr => ∃ (m : Nat) (N : List (List Int)) (G : List Nat), m ≤ L.length ∧ q = .int .i64 m ∧ Hid (N = rowsTo l L m) ∧ Below wo.heap.size wo wr ∧ Lst 34 1 wr wo.heap.size vn N.length (N.map dI) G) (fun _ q _ _ => L.length - (intOf q).toNat)
        case atStart => exact ⟨0, [], _, by omega, rfl, Lib.hid (by simp [rowsTo]), below_alloc _ _, HNIL.out⟩
        case round =>
          obtain ⟨m, N, G2, hm, rfl, hN, hw2, hLs2⟩ := hrel
          have HW2 := Lib.hid hw2
          have HLS2 := Lib.hid hLs2
          obtain ⟨_, an, cn, rfl⟩ := hLs2.val
          obtain ⟨wi, hwi⟩ : ∃ wi : World, wi = wr := ⟨_, rfl⟩
          subst hwi
          clear hw2 hLs2
          by_cases hlt2 : m < L.length
          · have hNlen : N.length ≤ 2002000 := by
              rw [hN.out, rowsTo_len l L m (by omega)]
              have := Nat.mul_le_mul (show m ≤ 2000 by omega) (show l + 1 ≤ 1001 by omega)
              omega
            go_wp2
            go_loopw [6, 8] (fun vn q wr => ∃ (n : Nat) (N2 : List (List Int)) (G : List Nat), n ≤ l + 1 ∧ q = .int .i64 n ∧ Hid (N2 = rowsTo l L m ++ extS (nthR L m) n) ∧ Below wo.heap.size wo wr ∧ Lst 34 1 wr wo.heap.size vn N2.length (N2.map dI) G) (fun _ q _ => l + 1 - (intOf q).toNat)
            case atStart => exact ⟨0, N, G2, by omega, rfl, Lib.hid (by rw [hN.out]; simp [extS]), HW2.out, HLS2.out⟩
            case round =>
              obtain ⟨n, N2, G3, hn3, rfl, hN2, hw3, hLs3⟩ := hrel
              obtain ⟨_, an2, cn2, rfl⟩ := hLs3.val
              have gb := HCELL.out wr (bnext HW.out hw3 (Nat.le_refl _))
              have HW3 := Lib.hid hw3
              have HLS3 := Lib.hid hLs3
              have hN2len : N2.length ≤ 2003001 := by
                rw [hN2.out, List.length_append, rowsTo_len l L m (by omega), extS_len]
                have := Nat.mul_le_mul (show m ≤ 2000 by omega) (show l + 1 ≤ 1001 by omega)
                omega
              obtain ⟨a', c', hcell, hsl'⟩ := (HII.out.below hw3).cell m hlt2
              have hz3 := hw3.size
              have hrl : (nthR L m).length < 4294967296 := by
                have e : (nthR L m).length = k := by rw [nthR_lt hlt2]; exact lvTo_mem b k _ (by rw [← hL.out]; exact List.getElem_mem hlt2)
                omega
              clear hw3 hLs3
              by_cases hlt3 : n ≤ l
              · go_wp2_with fail
                refine (l00OwnN_c Any a' c' (nthR L m) wr hsl' hrl).mono ?_
                rintro e w1 ⟨v1, rfl, hb1, hl1⟩
                have hz1 := hb1.size
                have hl1' := hl1.below (below_alloc w1 (.cells #[.int .i64 n] 2))
                have HB1 := Lib.hid hb1
                clear hb1 hl1 gb hcell hsl'
                go_wp2_with (at_builtin; refine app_one rfl _ _ 34 rfl tabI rfl (by decide) wr.heap.size _ _ rfl hl1' w1.heap.size (.int .i64 n) rfl rfl ?c1 ?c2 ?c3 ?_)
                case c1 => simp
                case c2 => simp; omega
                case c3 => simp; omega
                intro v2 w2 hl2 hb2
                obtain ⟨a2, c2, F2, rfl, ho2, hn2, hF2⟩ := (show Bld 2 w2 wr.heap.size v2 ((nthR L m ++ [(n : Int)]).map (.int .i64)) from (by simpa using hl2)).ow (by simp; unfold maxLen; omega)
                have hw2 : Below wr.heap.size wr w2 := (HB1.out.alloc hz1 _).trans hb2
                have hz2 := hw2.size
                have HW4 := Lib.hid hw2
                have hlen2 : (nthR L m ++ [(n : Int)]).length = (nthR L m).length + 1 := by simp
                have HO2 := Lib.hid ho2
                have hlt0 := HLS3.out.lt
                have HLT := Lib.hid hlt0
                clear hl1' hl2 hb2 hw2 ho2 hlen2 hlt0
                go_wp2_with (at_builtin; refine app_lst rfl _ _ 39 rfl tabII rfl (by omega) (by decide) wo.heap.size _ N2.length (N2.map dI) [dI (nthR L m ++ [(n : Int)])] G3 F2 [.slice a2 (nthR L m ++ [(n : Int)]).length c2] rfl (HLS3.out.below (HW4.out.alloc hz2 _)) w2.heap.size rfl ⟨⟨F2, [], HO2.out.below (below_alloc _ _), rfl, by simp⟩, rfl, hn2, fun x hx => Nat.le_trans hz3 (hF2 x hx), fun x hx hg => (by have h9 : wr.heap.size ≤ x := hF2 x hx; have := (HLT.out x hg).2; omega), (fun j u hu => by match j, hu with | 0, hu => (simp at hu; subst hu; simp)), by simp [Value.oneCell']⟩ (by omega) (by first | omega | (simp; omega)) ?_)
                intro v3 w3 G4 hN
                obtain ⟨_, a3, c3, rfl⟩ := hN.lst.val
                have hw5 : Below wo.heap.size wo w3 := ((HW3.out.trans (HW4.out.mono hz3)).alloc (by omega) _).trans (hN.chg.below (by simp; omega) (fun g hg => (HLT.out g (ob_sub HLS3.out g hg)).1))
                have HW5 := Lib.hid hw5
                have HL4 := Lib.hid hN.lst
                clear hw5 hN
                go_wp2
                go_roundw
                case rel => exact ⟨n + 1, N2 ++ [nthR L m ++ [(n : Int)]], G4, by omega, by go_num, Lib.hid (by rw [hN2.out, extS_succ, List.append_assoc]), HW5.out, by have := HL4.out; simpa using this⟩
                case measure => simp [intOf]; omega
              · clear hcell hsl'
                go_wp2
                go_roundw
                case rel => exact ⟨m + 1, N2, G3, by omega, by go_num, Lib.hid (by rw [hN2.out, show n = l + 1 from by omega, rowsTo_succ hlt2]), HW3.out, HLS3.out⟩
                case measure => simp [intOf]; omega
          · have e : m = L.length := by omega
            have hN' : N = lvTo b (k + 1) := by rw [hN.out, e, lvTo_succ, ← hL.out, HL0.out, Int.toNat_natCast]
            have HN' := Lib.hid hN'
            clear hN' e
            by_cases hq : N.length ≤ 2000
            · go_wp2
              go_roundw
              case rel => exact ⟨k + 1, N, G2, by omega, by go_num, HN', hq, bnext HW.out HW2.out (Nat.le_refl _), HLS2.out.lower hz0⟩
              case measure => simp [intOf]; omega
            · have HF : Hid (∀ a c w', Below w.heap.size w w' → RetLists w (lim (partsS b)) (.returned (.tuple #[.slice a 0 c, .int .i64 3])) w') := Lib.hid (fun a c w' h => by
                rw [lim, if_neg (by have := lvTo_le b (show k + 1 ≤ b.length by omega); have := HN'.out ▸ hq; omega)]
                exact RetDC.none _ _ _ h)
              go_wp2
              go_ret2
              exact HF.out _ _ _ ((bnext HW.out HW2.out (Nat.le_refl _)).alloc (by have := HW2.out.size; omega) _)
      · have e : k = b.length := by omega
        obtain ⟨G', hO, hN, hS⟩ := HLS.out.ow (by omega) (by unfold maxLen; omega)
        have hlt := HLS.out.lt
        have HF : Hid (RetLists w (lim (partsS b)) (.returned (.tuple #[.slice ao L.length co, .int .i64 0])) wr) := Lib.hid (by
          have e2 : partsS b = L := by rw [hL.out, e, lvTo_full]
          rw [e2, lim, if_pos hn]
          exact ⟨_, G', rfl, HW.out, hO, hN, fun g hg => (hlt g (hS g hg)).1⟩)
        clear hO hN hS hlt hII hw hLs
        go_wp2
        go_ret2
        exact HF.out
end Go.Proofs.Ythlbogmnnenkoaa
