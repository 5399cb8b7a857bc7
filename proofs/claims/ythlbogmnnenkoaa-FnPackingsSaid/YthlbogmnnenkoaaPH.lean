/- The greedy packing: both functions. -/
import Derived.Test.YthlbogmnnenkoaaPG
namespace Go.Proofs.Ythlbogmnnenkoaa
open Go.RowKit

theorem codeS_zeros (kinds : Int) (ps : List (List Int)) : codeS kinds ps (List.replicate ps.length 0) = askS kinds ps := by
  have h : cntsOk ps.length (List.replicate ps.length 0) = true := cntsOk_true (by simp) (fun j hj => by simp [nth, hj, cntOk, inRg])
  unfold codeS
  rw [if_pos h]
  split
  · rename_i h2; rw [h2]
  · rfl
theorem len_of_volII {xs : List (List Int)} (h : vol (dII xs) ≤ 16777216) : xs.length ≤ 16777216 := by
  have := volL_len (xs.map dI)
  simp only [List.length_map] at this
  exact Nat.le_trans this h
set_option maxHeartbeats 2000000 in
theorem bagAndParts_c (S T : Nat → Prop) (a b : Option Addr) (c c' : Nat) (xs : List Int) (ps : List (List Int)) (w : World) (hx : SlI S w a xs) (hy : SlII T w b ps) (hl : ps.length ≤ 16777216) :
    Calls Try.prog 173 #[.slice a xs.length c, .slice b ps.length c'] w (RetV w (.int .i64 (asked xs ps))) := by
  cases hA : isBagS xs
  · have HR : Hid (asked xs ps = 1) := Lib.hid (by simp [asked, hA])
    have HA := Lib.hid hA
    clear hA
    go_enter Try.func173, Try.ntmps173
    go_wp2_with fail
    refine (isBag_c S _ _ _ _ hx).mono ?_
    rintro e w' ⟨rfl, rfl⟩
    rw [HA.out]
    go_wp2
    go_ret
    exact ⟨ret_int HR.out.symm, Below.refl _ _⟩
  · have HR : Hid (asked xs ps = askS xs.length ps) := Lib.hid (by simp [asked, hA])
    have HA := Lib.hid hA
    have hmk := make_run1 (P := Try.prog) tabI rfl (by decide) ps.length (by omega)
    clear hA
    go_enter Try.func173, Try.ntmps173
    go_wp2_with fail
    refine (isBag_c S _ _ _ _ hx).mono ?_
    rintro e w' ⟨rfl, rfl⟩
    rw [HA.out]
    have hb := below_alloc w (.cells (Array.replicate ps.length (.int .i64 0)) 2)
    have hz : SlI Any (w.alloc (.cells (Array.replicate ps.length (.int .i64 0)) 2)) (some ⟨w.heap.size, 0, none⟩) (List.replicate ps.length 0) :=
      ⟨by simp; unfold maxLen; omega, fun _ => ⟨trivial, _, _, rfl⟩, fun i hi => by simp at hi; simp [adr, blk, ofs, go_sem, hi, nth]⟩
    have hcc := partsCode_c xs.length T Any b (some ⟨w.heap.size, 0, none⟩) c' ps.length ps (List.replicate ps.length 0) _ (hy.below hb) hz
    rw [codeS_zeros, List.length_replicate] at hcc
    have HC := Lib.hid hcc
    have HB := Lib.hid hb
    clear hcc hz hb
    go_wp2_with fail
    refine HC.out.mono ?_
    rintro e w' ⟨rfl, rfl⟩
    go_wp2
    go_ret
    exact ⟨ret_int HR.out.symm, HB.out⟩
theorem RowAt.int {w : World} {g B : Nat} {n : Int} {G : List Nat} (h : w.cell? ⟨g, 0, none⟩ = some (.int .i64 n)) : RowAt w g 1 B [.i n] [.int .i64 n] [] G :=
  ⟨⟨[], [], ⟨rfl, rfl⟩, rfl, rfl⟩, rfl, by simp, by simp, by simp, fun j u hu => by match j, hu with | 0, hu => (simp at hu; subst hu; exact h), by simp [Value.oneCell']⟩
/-- The state of the greedy loop. -/
structure Grd (E : TypeId) (w wr : World) (out rest : List Int) (o r : Value) : Prop where
  below : Below w.heap.size w wr
  has : ∃ F G, Ow wr (dI rest) r F ∧ F.Nodup ∧ (∀ g, g ∈ F → w.heap.size ≤ g) ∧ Lst E 1 wr w.heap.size o out.length (out.map .i) G ∧ ∀ g, g ∈ F → g ∉ G
theorem Grd.vals {E : TypeId} {w wr : World} {out rest : List Int} {o r : Value} (h : Grd E w wr out rest o r) : (∃ a c, o = .slice a out.length c) ∧ ∃ a c, r = .slice a rest.length c ∧ SlI Any wr a rest := by
  obtain ⟨F, G, h1, h2, h3, h4, h5⟩ := h.has
  obtain ⟨a, c, rfl⟩ := h1.val
  exact ⟨h4.val.2, a, c, rfl, h1.arg⟩
/-- The rest is replaced. -/
theorem Grd.rest {E : TypeId} {w wr w' : World} {out rest rest' : List Int} {o r r' : Value} (h : Grd E w wr out rest o r) (hr : RetD wr (dI rest') (.returned r') w') : Grd E w w' out rest' o r' := by
  obtain ⟨F, G, h1, h2, h3, h4, h5⟩ := h.has
  obtain ⟨u, F', e, g1, g2, g3, g4⟩ := hr
  cases e
  exact ⟨bnext h.below g1 (Nat.le_refl _), F', G, g2, g3, fun g hg => Nat.le_trans h.below.size (g4 g hg), h4.below g1, fun g hg hG => by have := g4 g hg; have := (h4.lt g hG).2; omega⟩
theorem Grd.below2 {E : TypeId} {w wr w' : World} {out rest : List Int} {o r : Value} (h : Grd E w wr out rest o r) (hb : Below wr.heap.size wr w') : Grd E w w' out rest o r := by
  obtain ⟨F, G, h1, h2, h3, h4, h5⟩ := h.has
  exact ⟨bnext h.below hb (Nat.le_refl _), F, G, h1.below hb, h2, h3, h4.below hb, h5⟩
/-- 'append(out, n)' beside the rest. -/
theorem app_grd {P : Program} {ops : Array Oper} {rest : List Oper} {o : Oper} {ac : Act} {Q : Exit → Act → World → Prop} {w1 : World} (hgd : o.guard = none) (s x : Operand) (T : TypeId)
    (ho : o.op = .call { callee := .builtin .append, args := #[s, x], argTypes := #[T, T] }) {E bytes : Nat} {z : Value} (tab : Tab P T E z 1 bytes) (hzs : z.cells.size = 1) (hby : bytes ≤ 1024)
    (w : World) (out rs : List Int) (vo r : Value) (hs : ac.eval s = vo) (h : Grd E w w1 out rs vo r) (g : Nat) (n : Int) (hx : ac.eval x = .slice (some ⟨g, 0, none⟩) 1 1) (hc : w1.cell? ⟨g, 0, none⟩ = some (.int .i64 n)) (hlen : out.length < 4294967296)
    (K : ∀ v' w', Grd E w w' (out ++ [n]) rs v' r → wpList P ops Q rest (ac.put o.dst v') w') : wpList P ops Q (o :: rest) ac w1 := by
  obtain ⟨F, G, h1, h2, h3, h4, h5⟩ := h.has
  refine app_lst hgd s x T ho tab hzs (by omega) hby w.heap.size vo out.length (out.map .i) [.i n] G [] [.int .i64 n] hs h4 g hx (RowAt.int hc) hlen h.below.size ?_
  intro v' w' G' hN
  have hob := ob_sub h4
  refine K v' w' ⟨h.below.trans (hN.chg.below h.below.size (fun g hg => (h4.lt g (hob g hg)).1)), F, G', hN.chg.ow h1 (fun g hg hg2 => h5 g hg (hob g hg2)), h2, h3, by have := hN.lst; simpa using this, fun g hg hG => ?_⟩
  rcases hN.mem g hG with hh | hh | hh
  · exact h5 g hg hh
  · cases hh
  · have := Ow.lt _ _ _ h1 g hg; omega
theorem Grd.ret {E : TypeId} {w wr : World} {out rest : List Int} {o r : Value} (h : Grd E w wr out rest o r) (hl : out.length ≤ maxLen) : RetD w (dI out) (.returned o) wr := by
  obtain ⟨F, G, h1, h2, h3, h4, h5⟩ := h.has
  obtain ⟨G', g1, g2, g3⟩ := h4.ow (by omega) hl
  exact ⟨o, G', rfl, h.below, g1, g2, fun g hg => (h4.lt g (g3 g hg)).1⟩
set_option maxHeartbeats 4000000 in
theorem implGreedyPacking_d (xs : List Int) (ps : List (List Int)) {v u : Value} (w : World) (h1 : Rd Any w (dI xs) v) (h2 : Rd Any w (dII ps) u) (hlp : ps.length ≤ 16777216) :
    Calls Try.prog 66 #[v, u] w (RetDC w (dI (greedyS xs ps).1) (greedyS xs ps).2) := by
  obtain ⟨a, c, rfl, hx⟩ := Rd_I.1 h1
  obtain ⟨b, c', rfl, hy⟩ := Rd_II.1 h2
  clear h1 h2
  have HC := Lib.hid (bagAndParts_c Any Any a b c c' xs ps w hx hy hlp)
  by_cases hcode : asked xs ps = 0
  · obtain ⟨hA, hask⟩ := asked_ok hcode
    have hb8 := isBagS_len hA
    have hp8 := (askS_ok hask).2.1
    have HOK : Hid (∀ k, k ≤ ps.length → (greedyTo xs ps k).1.length = k ∧ (greedyTo xs ps k).2.length = xs.length ∧ small (greedyTo xs ps k).2) := Lib.hid (fun k hk => greedyTo_ok hA hask k hk)
    have HAT : Hid (∀ k, k < ps.length → isBagS (nthR ps k) = true ∧ ((nthR ps k).length : Int) = xs.length ∧ ¬ sumS (nthR ps k) = 0) := Lib.hid (fun k hk => askS_at hask hk)
    have ev : greedyS xs ps = ((greedyTo xs ps ps.length).1, 0) := by rw [greedyS, if_pos hcode]
    rw [ev]
    rw [hcode] at HC
    have HX := Lib.hid hx
    have HY := Lib.hid hy
    have i1 := hy.ix tabII.under tabII.size c'
    obtain ⟨ad, rfl⟩ := hx.addr (by omega)
    clear ev hcode hA hask hx hy
    go_enter Try.func66, Try.ntmps66
    go_wp2_with fail
    refine HC.out.mono ?_
    rintro e w0 ⟨rfl, hb0⟩
    have hba := below_alloc w0 (.cells #[] 2)
    have HCL := Lib.hid (clone_c Any ad c xs (w0.alloc (.cells #[] 2)) ((HX.out.below hb0).below hba) (by omega))
    have HB0 := Lib.hid hb0
    clear hb0 hba
    go_wp2_with fail
    refine HCL.out.mono ?_
    rintro e w1 ⟨v1, F1, rfl, hb1, ho1, hn1, hF1⟩
    have hg0 : Grd 2 w w1 (greedyTo xs ps 0).1 (greedyTo xs ps 0).2 (.slice (some ⟨w0.heap.size, 0, none⟩) 0 0) v1 :=
      ⟨bnext (bnext HB0.out (below_alloc w0 _) (Nat.le_refl _)) hb1 (Nat.le_refl _), F1, [w0.heap.size], ho1, hn1, fun g hg => by have h1 := hF1 g hg; simp at h1; have := HB0.out.size; omega, (Lst.made 2 1 w0 w.heap.size HB0.out.size).below hb1, fun g hg => by have h1 := hF1 g hg; simp at h1; simp; omega⟩
    obtain ⟨a1, c1, rfl⟩ := ho1.val
    have HG := Lib.hid hg0
    clear hb1 ho1 hn1 hF1 hg0
    go_wp2
    go_loopw [7, 8, 10, 11, 23] (fun o r _ _ i wr => ∃ k : Nat, k ≤ ps.length ∧ i = .int .i64 k ∧ Grd 2 w wr (greedyTo xs ps k).1 (greedyTo xs ps k).2 o r) (fun _ _ _ _ i _ => ps.length - (intOf i).toNat)
    case atStart => exact ⟨0, Nat.zero_le _, rfl, HG.out⟩
    case round =>
      obtain ⟨k, hk, rfl, hgr⟩ := hrel
      have HGR := Lib.hid hgr
      obtain ⟨⟨aq, cq, rfl⟩, ao, co, rfl, hao⟩ := hgr.vals
      have hw := hgr.below
      clear hgr
      by_cases hlt : k < ps.length
      · obtain ⟨ap, cp, g0, hs0⟩ := HY.out.cell k hlt
        have HS0 := Lib.hid hs0
        have g1 := (hw.cell (World.block_lt_of_cell? w _ g0)).trans g0
        have hs := hs0.below hw
        clear g0 hs0
        have hok := HOK.out k hk
        have hat := HAT.out k hlt
        have hlen : (nthR ps k).length = (greedyTo xs ps k).2.length := by omega
        have HT := Lib.hid (timesIn_c Any ap ao cp co _ _ wr hs.any hao (by omega) (fun j hj => isBagS_small hat.1 j hj) (fun j hj => hok.2.2 j (by omega)))
        have HAO := Lib.hid (And.intro hao hs.any)
        have tb := timesS_bd hlen hok.2.2
        have hr8 : (greedyTo xs ps k).2.length ≤ 8 := by omega
        have HLEN := Lib.hid (And.intro hlen hok.1)
        have HW := Lib.hid hw
        clear hw hs hao hok hat hlen
        go_wp2_with fail
        refine HT.out.mono ?_
        rintro e w' ⟨rfl, rfl⟩
        have hg2 := HGR.out.below2 (below_alloc wr (.cells #[.int .i64 (timesS (nthR ps k) (greedyTo xs ps k).2)] 2))
        clear g1
        go_wp2_with (at_builtin; refine app_grd rfl _ _ 34 rfl tabI rfl (by decide) w _ _ _ _ rfl hg2 wr.heap.size (timesS (nthR ps k) (greedyTo xs ps k).2) rfl ?c1 ?c2 ?_)
        case c1 => simp [go_sem]
        case c2 => have := HLEN.out.2; omega
        intro v2 w2 hg3
        have HG3 := Lib.hid hg3
        obtain ⟨⟨a2, c2, rfl⟩, ao', co', e2, hao2⟩ := hg3.vals
        cases e2
        have HPL := Lib.hid (plus_c Any ao ap co cp _ _ (-timesS (nthR ps k) (greedyTo xs ps k).2) w2 hao2 (HS0.out.below hg3.below).any (by have := HLEN.out.1; omega) (by omega))
        clear hg3 hao2 hg2
        go_wp2_with fail
        refine HPL.out.mono ?_
        rintro e w3 ⟨v3, F3, rfl, hb3, ho3, hn3, hF3⟩
        have hg4 : Grd 2 w w3 (greedyTo xs ps (k + 1)).1 (greedyTo xs ps (k + 1)).2 _ v3 := HG3.out.rest ⟨v3, F3, rfl, hb3, ho3, hn3, hF3⟩
        have HG4 := Lib.hid hg4
        clear hb3 ho3 hn3 hF3 hg4
        go_wp2
        go_roundw
        case rel => exact ⟨k + 1, by omega, by go_num, by simpa only [List.length_append, List.length_cons, List.length_nil] using HG4.out⟩
        case measure => simp [intOf]; omega
      · have e : k = ps.length := by omega
        have HR := Lib.hid (HGR.out.ret (by rw [(HOK.out k hk).1]; unfold maxLen; omega))
        clear hw hao
        subst e
        go_wp2
        go_ret2
        exact RetDC.ofD HR.out (Below.refl _ _)
  · have hne : (asked xs ps != 0) = true := by simpa using hcode
    have ev : greedyS xs ps = ([], asked xs ps) := by rw [greedyS, if_neg hcode]
    rw [ev]
    clear ev hcode
    go_enter Try.func66, Try.ntmps66
    go_wp2_with fail
    refine HC.out.mono ?_
    rintro e w0 ⟨rfl, hb0⟩
    have HB0 := Lib.hid hb0
    clear hb0
    go_wp2
    go_ret2
    exact RetDC.none _ _ _ HB0.out
