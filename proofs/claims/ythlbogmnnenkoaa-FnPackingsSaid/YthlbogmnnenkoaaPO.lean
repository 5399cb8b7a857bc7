/- All packings of a bag: the program's functions. -/
import Derived.Test.YthlbogmnnenkoaaPH
import Derived.Test.YthlbogmnnenkoaaBU
namespace Go.Proofs.Ythlbogmnnenkoaa
open Go.RowKit

theorem Chg.comp {F F' : List Nat} {w wr w1 : World} (h : Chg F w wr) (h2 : Chg F' wr w1) (hs : ∀ g, g ∈ F' → g ∈ F ∨ w.heap.size ≤ g) : Chg F w w1 :=
  ⟨h2.os.trans h.os, h2.tape.trans h.tape, h2.output.trans h.output, Nat.le_trans h.size h2.size, fun k hk hF => (h2.block k (Nat.lt_of_lt_of_le hk h.size) (fun hk' => (hs k hk').elim hF (by omega))).trans (h.block k hk hF)⟩
theorem Rd.keep {S : Nat → Prop} {w w' : World} {F : List Nat} {d : D} {v : Value} (r : Rd S w d v) (h : Chg F w w') (hs : ∀ g, S g → g ∉ F) : Rd S w' d v := by
  have r1 : Rd (fun k => S k ∧ k < w.heap.size) w d v := Rd.wider (fun k hk hs => ⟨hs, hk⟩) d v r
  have r2 : Rd (fun k => S k ∧ k < w.heap.size) w' d v := Rd.stable (fun k hk => h.block k hk.2 (hs k hk.1)) d v r1
  exact Rd.wider (fun k _ hs => hs.1) d v r2
theorem SlI.keep {S : Nat → Prop} {w w' : World} {F : List Nat} {a : Option Addr} {xs : List Int} (h : SlI S w a xs) (hc : Chg F w w') (hs : ∀ g, S g → g ∉ F) : SlI S w' a xs := by
  obtain ⟨a', c', e, h'⟩ := Rd_I.1 ((Rd_I.2 ⟨a, 0, rfl, h⟩).keep hc hs)
  cases e; exact h'
theorem SlI.wider {S T : Nat → Prop} {w : World} {a : Option Addr} {xs : List Int} (h : SlI S w a xs) (hs : ∀ g, g < w.heap.size → S g → T g) : SlI T w a xs := by
  obtain ⟨a', c', e, h'⟩ := Rd_I.1 (Rd.wider hs _ _ (Rd_I.2 ⟨a, 0, rfl, h⟩))
  cases e; exact h'
theorem Enm.next {w w' : World} {B : Nat} {C : List (Nat × Value)} {gb gl : Nat} {bs : List Int} {L : List (List Int)} {G : List Nat} {E : TypeId} (h : Enm w B C gb gl bs L G E) (hb : Below w.heap.size w w') : Enm w' B C gb gl bs L G E :=
  h.chg (Chg.ofBelow hb) (h.box.keep (F' := []) (Chg.ofBelow hb) (by simp)) (fun g hg => .inl hg)
/-- A call of a closure, at a step of a region that draws its order. -/
theorem step_callX {P : Program} {ops : Array Oper} {o : Oper} {ac : Act} {w : World} {K : Act → World → Prop} {Q : Exit → Act → World → Prop} {X : Prop} (hgd : o.guard = none) (f : FuncId) (caps : Array Value) (x : Operand) (xs : Array Operand) (ts : Array TypeId)
    (ho : o.op = .call { callee := .value x, args := xs, argTypes := ts }) (hx : ac.eval x = .func (.func f) #[] caps) (hrun : ∀ args w, (callFunc f args).run P w = .ok (.enter f args) w) (vs : Array Value) (hv : xs.map ac.eval = vs) {Post : Ending → World → Prop}
    (h : Calls P f (vs ++ caps) w Post) (hK : ∀ e w', Post e w' → ∃ v, e = .returned v ∧ K (ac.put o.dst v) w') : if Region.wanted o (yielded ops ac.tmps) = true then Oper.wp P o ac w K Q else X := by
  have hw : Region.wanted o (yielded ops ac.tmps) = true := by simp [Region.wanted, hgd]
  rw [if_pos hw]
  unfold Oper.wp execOp
  simp only [ho, resolve, hx, Deferred.ofValue, Sem.run_bind, Sem.run_pure, Result.andThen_ok, invoke]
  rw [show xs.map (Act.eval ac) = vs from hv]
  simp only [Array.empty_append, hrun, Oper.upon_enter]
  refine h.mono fun e w' hp => ?_
  obtain ⟨v, rfl, hk⟩ := hK e w' hp
  exact hk
set_option maxHeartbeats 4000000 in
set_option maxRecDepth 100000 in
theorem packFrom_c (f : FuncId) (caps : Array Value) (P : List Int → Bool) (hcall : ∀ args w, (callFunc f args).run Try.prog w = .ok (.enter f args) w) (w0 : World) (M : Nat) (ab : Option Addr) (cb : Nat) (ps : List (List Int)) (hsl : SlII Any w0 ab ps) (hM : M ≤ 8)
    (hat : Hid (∀ k, k < ps.length → isBagS (nthR ps k) = true ∧ (nthR ps k).length = M))
    (hf : Hid (∀ w' a c rest, Below w0.heap.size w0 w' → SlI Any w' a rest → rest.length = M → Calls Try.prog f (#[.slice a rest.length c] ++ caps) w' (RetV w' (.bool (P rest))))) (hK : ps.length ≤ 8) (gb gl : Nat) (px pi po pc pf : Nat) (C : List (Nat × Value))
    (hC : C = [(px, .slice ab ps.length cb), (pi, .func (.func f) #[] caps), (po, .pointer (some ⟨gl, 0, none⟩)), (pc, .slice (some ⟨gb, 0, none⟩) ps.length ps.length), (pf, .func (.func 236) #[] #[.pointer (some ⟨px, 0, none⟩), .pointer (some ⟨pi, 0, none⟩), .pointer (some ⟨po, 0, none⟩), .pointer (some ⟨pc, 0, none⟩), .pointer (some ⟨pf, 0, none⟩)])]) :
    ∀ (r k : Nat) (bs : List Int) (L : List (List Int)) (G : List Nat) (w : World) (kv : Int) (ar : Option Addr) (cr : Nat) (rest : List Int), kv = k → ps.length = k + r → bs.length = ps.length → L.length ≤ 2000 → Below w0.heap.size w0 w → Enm w w0.heap.size C gb gl bs L G 34 → SlI (fun g => g ≠ gb ∧ g ≠ gl ∧ g ∉ G) w ar rest → rest.length = M → small rest →
    Calls Try.prog 236 #[.int .i64 kv, .slice ar rest.length cr, .pointer (some ⟨px, 0, none⟩), .pointer (some ⟨pi, 0, none⟩), .pointer (some ⟨po, 0, none⟩), .pointer (some ⟨pc, 0, none⟩), .pointer (some ⟨pf, 0, none⟩)] w (EnmPost w w0.heap.size C gb gl bs k (capA L ((packs P (ps.drop k) rest).map (bs.take k ++ ·))) G 34) := by
  have HC := Lib.hid hC
  clear hC
  intro r
  induction r with
  | zero =>
    intro k bs L G w kv ar cr rest hkv hKr hbs hL hw hE hrest hrl hrs
    subst hkv
    have c1 := (hE.caps _ _ (by rw [HC.out]; exact .head _)).1
    have c2 := (hE.caps _ _ (by rw [HC.out]; exact .tail _ (.head _))).1
    have ht : ((k : Int) == (ps.length : Int)) = true := by simp; omega
    have HIS := Lib.hid (hf.out w ar cr rest hw hrest.any hrl)
    have hdrop : ps.drop k = [] := List.drop_eq_nil_of_le (by omega)
    have HE := Lib.hid hE
    have HBS := Lib.hid hbs
    have HK := Lib.hid hKr
    rw [hdrop]
    clear hE hKr hbs hdrop hrest hrs hrl
    cases hP : P rest
    · rw [hP] at HIS
      have hone : capA L ((packs P [] rest).map (bs.take k ++ ·)) = L := by simp [packs, hP, capA_nil (show L.length ≤ 2001 by omega)]
      rw [hone]
      clear hone hP
      go_enter Try.func236, Try.ntmps236
      go_wp2_with fail
      refine HIS.out.mono ?_
      rintro e w1 ⟨rfl, hb1⟩
      have HR : Hid (EnmPost w w0.heap.size C gb gl bs k L G 34 (.returned (.bool true)) w1) := Lib.hid
        ⟨ret_bool (by simpa using hL), bs, G, HE.out.next hb1, rfl, rfl, Chg.ofBelow hb1, fun g hg => .inl hg⟩
      clear hb1
      go_wp2
      go_ret
      exact HR.out
    · rw [hP] at HIS
      have hone : capA L ((packs P [] rest).map (bs.take k ++ ·)) = L ++ [bs] := by
        have e : bs.take k = bs := List.take_of_length_le (by have := HBS.out; have := HK.out; omega)
        simp [packs, hP, capA_one hL, e]
      rw [hone]
      clear hone hP
      go_enter Try.func236, Try.ntmps236
      go_wp2_with fail
      refine HIS.out.mono ?_
      rintro e w1 ⟨rfl, hb1⟩
      have hE1 := HE.out.next hb1
      have d3 := (hE1.caps _ _ (by rw [HC.out]; exact .tail _ (.tail _ (.head _)))).1
      have d4 := (hE1.caps _ _ (by rw [HC.out]; exact .tail _ (.tail _ (.tail _ (.head _))))).1
      have hA := add_c w0.heap.size gl ⟨gb, 0, none⟩ ps.length bs L.length (L.map dI) G w1 hE1.box (hE1.slI (by unfold maxLen; have := HBS.out; omega)) (by have := HBS.out; omega) hL hE1.base.2.2
      rw [HBS.out] at hA
      have HA := Lib.hid hA
      have HE1 := Lib.hid hE1
      have HB1 := Lib.hid hb1
      clear hA hE1 hb1
      go_wp2_with fail
      refine HA.out.mono ?_
      rintro e w2 ⟨rfl, G1, hb2, hc2, hm2⟩
      have HP : Hid (EnmPost w w0.heap.size C gb gl bs k (L ++ [bs]) G 34 (.returned (.bool (decide ((L.length : Int) + 1 ≤ 2000)))) w2) := Lib.hid (by
        refine ⟨ret_bool (by simp; omega), bs, G1, HE1.out.chg (L' := L ++ [bs]) hc2 (by simpa using hb2) hm2, rfl, rfl, (Chg.ofBelow HB1.out).comp hc2 (fun g hg => ?_), fun g hg => ?_⟩
        · exact .inl (List.mem_cons_of_mem _ hg)
        · rcases hm2 g hg with h | h
          · exact .inl h
          · have := HB1.out.size; exact .inr (by omega))
      clear hb2 hc2 hm2
      go_wp2
      go_ret
      exact HP.out
  | succ r ih =>
    intro k bs L G w kv ar cr rest hkv hKr hbs hL hw hE hrest hrl hrs
    subst hkv
    have IH := Lib.hid ih
    have c1 := (hE.caps _ _ (by rw [HC.out]; exact .head _)).1
    have i0 := hsl.ix tabII.under tabII.size cb
    have i1 := ix_of (P := Try.prog) tabI.under tabI.size (a := some ⟨gb, 0, none⟩) (n := ps.length) (fun _ => ⟨gb, 0, rfl⟩) ps.length
    simp only [Nat.mul_one, adr, blk, ofs, Nat.zero_add] at i1
    have ht : ((k : Int) == (ps.length : Int)) = false := by simp; omega
    have hkb0 : k < ps.length := by omega
    have hat0 := hat.out k hkb0
    have hlen : (nthR ps k).length = rest.length := by omega
    have htb := timesS_bd hlen hrs
    obtain ⟨l, hl⟩ : ∃ l : Nat, timesS (nthR ps k) rest = l := ⟨(timesS (nthR ps k) rest).toNat, by omega⟩
    have hl1 : l ≤ 1000 := by omega
    have hk2 : (k : Int) < ps.length := by omega
    obtain ⟨ap, cp, g00, hs0⟩ := hsl.cell k hkb0
    have HP0 := Lib.hid (And.intro g00 hs0)
    have HAT := Lib.hid hat0
    have HLEN := Lib.hid hlen
    have HRS := Lib.hid hrs
    have HL0 := Lib.hid hl
    have HW := Lib.hid hw
    have HK := Lib.hid hKr
    have HBS := Lib.hid hbs
    have HE := Lib.hid hE
    have HREST := Lib.hid hrest
    have HRL := Lib.hid hrl
    have hr8 : rest.length ≤ 8 := by omega
    have HSZ := Lib.hid (show w.heap.size = w.heap.size from rfl)
    have hrunP := callFunc_run Try.func148 (by kernel_rfl) rfl
    have hrunF := callFunc_run Try.func236 (by kernel_rfl) rfl
    clear hbs hKr hE ih hl hw hsl hrest htb hat0 hlen g00 hs0 hrs hrl
    go_enter Try.func236, Try.ntmps236
    go_wp2
    go_loopw [10] (fun i0 wr => ∃ (j : Nat) (bs' : List Int) (L' : List (List Int)) (G' : List Nat), j ≤ l + 1 ∧ i0 = .int .i64 j ∧ Hid (L' = capA L (packsTo P (ps.drop (k + 1)) (nthR ps k) rest (bs.take k) j)) ∧ L'.length ≤ 2000 ∧ Enm wr w0.heap.size C gb gl bs' L' G' 34 ∧ Hid (bs'.length = bs.length ∧ bs'.take k = bs.take k) ∧ Chg (gb :: gl :: G) w wr ∧ (∀ g, g ∈ G' → g ∈ G ∨ w.heap.size ≤ g)) (fun i0 _ => l + 1 - (intOf i0).toNat)
    case atStart => exact ⟨0, bs, L, G, by omega, rfl, Lib.hid (by simp [packsTo, capA_nil (show L.length ≤ 2001 by omega)]), hL, HE.out, Lib.hid ⟨rfl, rfl⟩, Chg.refl _ _, fun g hg => .inl hg⟩
    case round =>
      obtain ⟨j, bs', L', G', hj, rfl, hL', hn', hE', hb', hc', hm'⟩ := hrel
      have hwr : Below w0.heap.size w0 wr := HW.out.trans (hc'.below HE.out.base.2.2 (fun g hg => by
        simp at hg
        rcases hg with rfl | rfl | hg
        · exact HE.out.base.1
        · exact HE.out.base.2.1
        · exact (HE.out.box.lt.2 g hg).1))
      have hrw := HREST.out.keep hc' (fun g hg => by simp; exact hg)
      have HCH := Lib.hid hc'
      have HM := Lib.hid hm'
      have c0 := (hE'.caps _ _ (by rw [HC.out]; exact .head _)).1
      have g0 := (hwr.cell (World.block_lt_of_cell? w0 _ HP0.out.1)).trans HP0.out.1
      have htm := timesIn_c Any ap ar cp cr _ _ wr (HP0.out.2.below hwr) hrw.any (Nat.le_of_eq HLEN.out) (fun j hj => isBagS_small HAT.out.1 j hj) (fun j hj => HRS.out j (by have := HLEN.out; omega))
      rw [HL0.out] at htm
      have HT := Lib.hid htm
      have HWR := Lib.hid hwr
      have HRW := Lib.hid hrw
      clear hc' hm' c1 ht hwr hrw htm
      by_cases hlt : j ≤ l
      · have hkb : k < bs'.length := by have := hb'.out.1; have := HBS.out; omega
        have c4 := (hE'.caps _ _ (by rw [HC.out]; exact .tail _ (.tail _ (.tail _ (.head _))))).1
        have g1 := hE'.cells k hkb
        have g2 := hE'.free k
        have hset := hE'.set hkb j
        have d1 := (hset.caps _ _ (by rw [HC.out]; exact .head _)).1
        have d5 := (hset.caps _ _ (by rw [HC.out]; exact .tail _ (.tail _ (.tail _ (.tail _ (.head _)))))).1
        have hws : Below w0.heap.size w0 (wr.setCell ⟨gb, k, none⟩ (.int .i64 j)) := HWR.out.setCell hE'.base.1 _
        have hchs := chg_set wr ⟨gb, k, none⟩ (.int .i64 j) (gb :: gl :: G') (by simp)
        have hcS := HCH.out.comp hchs (fun g hg => by
          simp at hg ⊢
          rcases hg with h | h | h
          · exact .inl (.inl h)
          · exact .inl (.inr (.inl h))
          · rcases HM.out g h with h | h
            · exact .inl (.inr (.inr h))
            · exact .inr h)
        have hrS := HREST.out.keep hcS (fun g hg => by simp; exact hg)
        have gS := (hws.cell (World.block_lt_of_cell? w0 _ HP0.out.1)).trans HP0.out.1
        have n1 := (hset.caps _ _ (by rw [HC.out]; exact .head _)).2.1
        have n5 := (hset.caps _ _ (by rw [HC.out]; exact .tail _ (.tail _ (.tail _ (.tail _ (.head _)))))).2.1
        have HPL : Hid (∀ wx, Below (wr.setCell ⟨gb, k, none⟩ (.int .i64 j)).heap.size (wr.setCell ⟨gb, k, none⟩ (.int .i64 j)) wx → Calls Try.prog 148 #[.slice ar rest.length cr, .slice ap (nthR ps k).length cp, .int .i64 (-(j : Int))] wx (RetD wx (dI (plusS rest (nthR ps k) (-(j : Int)))))) :=
          Lib.hid (fun wx hb => plus_c Any ar ap cr cp _ _ _ wx (hrS.any.below hb) ((HP0.out.2.below hws).below hb) (by have := HLEN.out; omega) (by omega))
        obtain ⟨L2, hL2⟩ : ∃ L2, L2 = capA L (packsTo P (ps.drop (k + 1)) (nthR ps k) rest (bs.take k) (j + 1)) := ⟨_, rfl⟩
        have hL2' : capA L' ((packs P (ps.drop (k + 1)) (plusS rest (nthR ps k) (-(j : Int)))).map (bs.take k ++ [(j : Int)] ++ ·)) = L2 := by
          rw [hL2, hL'.out, capA_capA, packsTo_succ]; simp
        have HSM : Hid (small (plusS rest (nthR ps k) (-(j : Int)))) := Lib.hid (take_small HLEN.out HRS.out (isBagS_small HAT.out.1) (by omega) (by have := HL0.out; omega))
        have HIH : Hid (∀ (w2 : World) (v2 : Value) (F2 : List Nat), Below (wr.setCell ⟨gb, k, none⟩ (.int .i64 j)).heap.size (wr.setCell ⟨gb, k, none⟩ (.int .i64 j)) w2 → Ow w2 (dI (plusS rest (nthR ps k) (-(j : Int)))) v2 F2 → (∀ g, g ∈ F2 → (wr.setCell ⟨gb, k, none⟩ (.int .i64 j)).heap.size ≤ g) →
            Calls Try.prog 236 #[.int .i64 ((k : Int) + 1), v2, .pointer (some ⟨px, 0, none⟩), .pointer (some ⟨pi, 0, none⟩), .pointer (some ⟨po, 0, none⟩), .pointer (some ⟨pc, 0, none⟩), .pointer (some ⟨pf, 0, none⟩)] w2 (fun e w1 => e = .returned (.bool (decide (L2.length ≤ 2000))) ∧ ∃ bs2 G2, Enm w1 w0.heap.size C gb gl bs2 L2 G2 34 ∧ (bs2.length = bs.length ∧ bs2.take k = bs.take k) ∧ Chg (gb :: gl :: G) w w1 ∧ ∀ g, g ∈ G2 → g ∈ G ∨ w.heap.size ≤ g)) := Lib.hid (by
          intro w2 v2 F2 hb2 ho2 hF2
          have hE2 := hset.next hb2
          obtain ⟨a2, c2, rfl, hs2⟩ := ho2.slI
          have hbox := hset.box.lt
          have hgl := hset.lt
          have hcall := IH.out (k + 1) (bs'.set k j) L' G' w2 ((k : Int) + 1) a2 c2 (plusS rest (nthR ps k) (-(j : Int))) (by omega) (by have := HK.out; omega) (by have := hb'.out.1; have := HBS.out; simp; omega) hn' (bnext hws hb2 (Nat.le_refl _)) hE2
            (hs2.wider (fun g _ hg => by have := hF2 g hg; exact ⟨by omega, by have := hbox.1; omega, fun hG => by have := (hbox.2 g hG).2; omega⟩)) (by rw [plusS_len]; exact HRL.out) HSM.out
          rw [take_set_succ hkb, hb'.out.2, hL2'] at hcall
          refine hcall.mono ?_
          rintro e w1 ⟨he, bs2, G2, hE3, hbl, hbt, hc3, hm3⟩
          refine ⟨he, bs2, G2, hE3, ⟨by have := hb'.out.1; simp at hbl; omega, ?_⟩, ?_, fun g hg => ?_⟩
          · have := congrArg (List.take k) (hbt.trans (by rw [take_set_succ hkb, hb'.out.2]))
            rw [List.take_take, Nat.min_eq_left (by omega)] at this
            rw [this, List.take_append_of_le_length (by have := hb'.out.1; simp; omega), List.take_take, Nat.min_self]
          · refine hcS.comp ((Chg.ofBelow (F := gb :: gl :: G') hb2).trans hc3) (fun g hg => ?_)
            simp at hg ⊢
            rcases hg with h | h | h
            · exact .inl (.inl h)
            · exact .inl (.inr (.inl h))
            · rcases HM.out g h with h | h
              · exact .inl (.inr (.inr h))
              · exact .inr h
          · rcases hm3 g hg with hh | hh
            · exact HM.out g hh
            · have h1 := hcS.size
              have h2 := hb2.size
              exact .inr (by omega))
        have HL2 := Lib.hid hL2
        have hpf : pf < (wr.setCell ⟨gb, k, none⟩ (.int .i64 j)).heap.size := World.block_lt_of_cell? _ _ d5
        have HE' := Lib.hid hE'
        clear hws hset hchs hcS hrS hL2' hL2 hE'
        have hwj : IntKind.i64.wrap (-(j : Int)) = -(j : Int) := by rw [IntKind.wrap_i64]; omega
        have hwk : IntKind.i64.wrap ((k : Int) + 1) = (k : Int) + 1 := by rw [IntKind.wrap_i64]; omega
        go_wp2_with fail
        refine HT.out.mono ?_
        rintro e w1 ⟨rfl, rfl⟩
        go_wp2
        by_cases hq : L2.length ≤ 2000
        · go_region_law (first
            | (refine step_callD rfl 148 #[.tmp 41, .tmp 45, .tmp 47] _ rfl hrunP #[.slice ar rest.length cr, .slice ap (nthR ps k).length cp, .int .i64 (-(j : Int))] (by first | rfl | (simp [Act.eval]; done) | (simp [Act.eval]; rfl)) (dI (plusS rest (nthR ps k) (-(j : Int)))) (HPL.out _ (Below.refl _ _).drew) ?_; intro v1 F1 w1 hb1 ho1 hn1 hl1; obtain ⟨a1, c1, rfl⟩ := ho1.val; have f1 := (bcell1 (i := 0) hb1 hpf).trans d5)
            | (refine step_callX rfl 236 _ (.tmp 38) #[.tmp 40, .tmp 48] _ rfl rfl hrunF #[.int .i64 ((k : Int) + 1), .slice a1 (plusS rest (nthR ps k) (-(j : Int))).length c1] (by first | rfl | (simp [Act.eval]; done) | (simp [Act.eval]; rfl)) (HIH.out _ _ F1 ((Below.refl _ _).drew.trans hb1) ho1 hl1) ?_; rintro e w3 ⟨he, bs2, G2, hE3, hbb, hc3, hm3⟩; rw [decide_eq_true hq] at he; subst he; refine ⟨_, rfl, ?_⟩))
          all_goals
            have HE3 := Lib.hid hE3
            have HB3 := Lib.hid hbb
            have HC3 := Lib.hid hc3
            have HM3 := Lib.hid hm3
            clear hE3 hbb hc3 hm3 hb1 ho1 hn1 hl1 f1 d1 d5 g1 g2 gS c4
            go_wp2
            go_roundw
            case rel => exact ⟨j + 1, bs2, L2, G2, by omega, by go_num, HL2, hq, HE3.out, HB3, HC3.out, HM3.out⟩
            case measure => simp [intOf]; omega
        · go_region_law (first
            | (refine step_callD rfl 148 #[.tmp 41, .tmp 45, .tmp 47] _ rfl hrunP #[.slice ar rest.length cr, .slice ap (nthR ps k).length cp, .int .i64 (-(j : Int))] (by first | rfl | (simp [Act.eval]; done) | (simp [Act.eval]; rfl)) (dI (plusS rest (nthR ps k) (-(j : Int)))) (HPL.out _ (Below.refl _ _).drew) ?_; intro v1 F1 w1 hb1 ho1 hn1 hl1; obtain ⟨a1, c1, rfl⟩ := ho1.val; have f1 := (bcell1 (i := 0) hb1 hpf).trans d5)
            | (refine step_callX rfl 236 _ (.tmp 38) #[.tmp 40, .tmp 48] _ rfl rfl hrunF #[.int .i64 ((k : Int) + 1), .slice a1 (plusS rest (nthR ps k) (-(j : Int))).length c1] (by first | rfl | (simp [Act.eval]; done) | (simp [Act.eval]; rfl)) (HIH.out _ _ F1 ((Below.refl _ _).drew.trans hb1) ho1 hl1) ?_; rintro e w3 ⟨he, bs2, G2, hE3, hbb, hc3, hm3⟩; rw [decide_eq_false hq] at he; subst he; refine ⟨_, rfl, ?_⟩))
          all_goals
            have hfull : capA L ((packs P (ps.drop k) rest).map (bs.take k ++ ·)) = L2 := by
              obtain ⟨tl, hr⟩ := packsTo_split P (ps.drop (k + 1)) (nthR ps k) rest (bs.take k) (show j + 1 ≤ l + 1 by omega)
              rw [show ps.drop k = nthR ps k :: ps.drop (k + 1) from by rw [nthR_lt hkb0, List.drop_eq_getElem_cons hkb0], ← packsTo_full, HL0.out, Int.toNat_natCast, hr, capA_full tl (by rw [← HL2.out]; exact hq), ← HL2.out]
            have HR : Hid (EnmPost w w0.heap.size C gb gl bs k (capA L ((packs P (ps.drop k) rest).map (bs.take k ++ ·))) G 34 (.returned (.bool false)) w3) := Lib.hid (by
              rw [hfull]
              exact ⟨ret_bool (by simpa using hq), bs2, G2, hE3, hbb.1, hbb.2, hc3, hm3⟩)
            clear hE3 hbb hc3 hm3 hb1 ho1 hn1 hl1 f1 hfull d1 d5 g1 g2 gS c4
            go_wp2
            go_ret
            exact HR.out
      · go_wp2_with fail
        refine HT.out.mono ?_
        rintro e w1 ⟨rfl, rfl⟩
        have HE' := Lib.hid hE'
        clear hE' g0 c0
        go_wp2
        go_ret
        have e : j = l + 1 := by omega
        have hfull : capA L ((packs P (ps.drop k) rest).map (bs.take k ++ ·)) = L' := by rw [show ps.drop k = nthR ps k :: ps.drop (k + 1) from by rw [nthR_lt hkb0, List.drop_eq_getElem_cons hkb0], ← packsTo_full, HL0.out, Int.toNat_natCast, ← e, ← hL'.out]
        rw [hfull]
        exact ⟨ret_bool (by simpa using hn'), bs', G', HE'.out, hb'.out.1, hb'.out.2, HCH.out, HM.out⟩
set_option maxHeartbeats 4000000 in
theorem packings_c (f : FuncId) (caps : Array Value) (P : List Int → Bool) (hcall : ∀ args w, (callFunc f args).run Try.prog w = .ok (.enter f args) w) (a b : Option Addr) (c c' : Nat) (xs : List Int) (ps : List (List Int)) (w : World) (hx : SlI Any w a xs) (hy : SlII Any w b ps) (hlp : ps.length ≤ 16777216)
    (hf : Hid (∀ w' a c rest, Below w.heap.size w w' → SlI Any w' a rest → rest.length = xs.length → asked xs ps = 0 → Calls Try.prog f (#[.slice a rest.length c] ++ caps) w' (RetV w' (.bool (P rest))))) :
    Calls Try.prog 169 #[.slice a xs.length c, .slice b ps.length c', .func (.func f) #[] caps] w (RetLists w (packingsS (fun _ => P) xs ps)) := by
  have hb0 : Below w.heap.size w ((w.alloc (.cells #[.slice b ps.length c'] 39)).alloc (.cells #[.func (.func f) #[] caps] 177)) := ((Below.refl _ _).alloc (Nat.le_refl _) _).alloc (by simp) _
  have HC := Lib.hid (bagAndParts_c Any Any a b c c' xs ps _ (hx.below hb0) (hy.below hb0) hlp)
  have HB0 := Lib.hid hb0
  have HX := Lib.hid hx
  have HY := Lib.hid hy
  clear hb0 hx hy
  by_cases hcode : asked xs ps = 0
  · obtain ⟨hA, hask⟩ := asked_ok hcode
    have hb8 := isBagS_len hA
    have hp8 := (askS_ok hask).2.1
    have HAT : Hid (∀ k, k < ps.length → isBagS (nthR ps k) = true ∧ (nthR ps k).length = xs.length) := Lib.hid (fun k hk => by have := askS_at hask hk; exact ⟨this.1, by omega⟩)
    have HSM := Lib.hid (isBagS_small hA)
    have HCD := Lib.hid hcode
    rw [hcode] at HC
    clear hA hask
    by_cases hq : 16 < sumS xs
    · have ev : packingsS (fun _ => P) xs ps = ([], 3) := by rw [packingsS, if_pos hcode, if_pos hq]
      rw [ev]
      clear ev hcode
      go_enter Try.func169, Try.ntmps169
      go_wp2_with fail
      refine HC.out.mono ?_
      rintro e w1 ⟨rfl, hb1⟩
      have HB1 := Lib.hid (HB0.out.trans (hb1.mono (by simp <;> omega)))
      have HSZ := Lib.hid (bagSize_c Any a c xs w1 (HX.out.below HB1.out))
      clear hb1
      go_wp2_with fail
      refine HSZ.out.mono ?_
      rintro e w2 ⟨rfl, rfl⟩
      go_wp2
      go_ret2
      exact RetDC.none _ _ _ HB1.out
    · have ev : packingsS (fun _ => P) xs ps = lim (packs P ps xs) := by rw [packingsS, if_pos hcode, if_neg hq]
      rw [ev]
      have hmk := make_run1 (P := Try.prog) tabI rfl (by decide) ps.length (by omega)
      clear ev hcode
      go_enter Try.func169, Try.ntmps169
      go_wp2_with fail
      refine HC.out.mono ?_
      rintro e w1 ⟨rfl, hb1⟩
      have q0 : w1.cell? ⟨w.heap.size, 0, none⟩ = some (.slice b ps.length c') := by rw [bcell1 hb1 (by simp <;> omega)]; simp [go_sem]
      have q1 : w1.cell? ⟨w.heap.size + 1, 0, none⟩ = some (.func (.func f) #[] caps) := by rw [bcell1 hb1 (by simp)]; simp [go_sem]
      have hz1 : w.heap.size + 2 ≤ w1.heap.size := by have := hb1.size; simp at this; omega
      have HB1 := Lib.hid (HB0.out.trans (hb1.mono (by simp <;> omega)))
      have HSZ := Lib.hid (bagSize_c Any a c xs w1 (HX.out.below HB1.out))
      have y1 := fun o1 => (bcell1 (i := 0) (b := w.heap.size) (below_alloc w1 o1) (by omega)).trans q0
      have y2 := fun o1 o2 => (bcell1 (i := 0) (b := w.heap.size) ((below_alloc w1 o1).alloc (by simp) o2) (by omega)).trans q0
      have y3 := fun o1 o2 o3 => (bcell1 (i := 0) (b := w.heap.size) (((below_alloc w1 o1).alloc (by simp) o2).alloc (by simp <;> omega) o3) (by omega)).trans q0
      have y4 := fun o1 o2 o3 o4 => (bcell1 (i := 0) (b := w.heap.size) ((((below_alloc w1 o1).alloc (by simp) o2).alloc (by simp <;> omega) o3).alloc (by simp <;> omega) o4) (by omega)).trans q0
      clear hb1
      go_upto_region 6 with (go_at_call 124; refine HSZ.out.mono ?_; rintro e w2 ⟨rfl, rfl⟩)
      go_cut [9, 10] (fun s6 s7 wx => Init w1 ps.length s6 s7 wx)
      case first =>
        go_region
        all_goals
          go_wp2_with fail
          go_meet
        all_goals first
          | (refine ⟨_, _, w1.heap.size, w1.heap.size + 1, rfl, rfl, ?_, ?_, ?_, ?_, ?_, ?_, ?_, ?_, ?_⟩ <;> (first | (simp [go_sem]; done) | omega | (simp; omega) | (intro i hi; simp [go_sem, hi]; done) | (intro i; simp [go_sem]; done) | ((repeat (first | exact Below.refl _ _ | refine Below.drew ?_ | refine Below.alloc ?_ (by simp <;> omega) _)); done)))
          | (refine ⟨_, _, w1.heap.size, w1.heap.size + 1 + 1, rfl, rfl, ?_, ?_, ?_, ?_, ?_, ?_, ?_, ?_, ?_⟩ <;> (first | (simp [go_sem]; done) | omega | (simp; omega) | (intro i hi; simp [go_sem, hi]; done) | (intro i; simp [go_sem]; done) | ((repeat (first | exact Below.refl _ _ | refine Below.drew ?_ | refine Below.alloc ?_ (by simp <;> omega) _)); done)))
          | (refine ⟨_, _, w1.heap.size, w1.heap.size + 1 + 1 + 1, rfl, rfl, ?_, ?_, ?_, ?_, ?_, ?_, ?_, ?_, ?_⟩ <;> (first | (simp [go_sem]; done) | omega | (simp; omega) | (intro i hi; simp [go_sem, hi]; done) | (intro i; simp [go_sem]; done) | ((repeat (first | exact Below.refl _ _ | refine Below.drew ?_ | refine Below.alloc ?_ (by simp <;> omega) _)); done)))
          | (refine ⟨_, _, w1.heap.size + 1, w1.heap.size, rfl, rfl, ?_, ?_, ?_, ?_, ?_, ?_, ?_, ?_, ?_⟩ <;> (first | (simp [go_sem]; done) | omega | (simp; omega) | (intro i hi; simp [go_sem, hi]; done) | (intro i; simp [go_sem]; done) | ((repeat (first | exact Below.refl _ _ | refine Below.drew ?_ | refine Below.alloc ?_ (by simp <;> omega) _)); done)))
          | (refine ⟨_, _, w1.heap.size + 1, w1.heap.size + 1 + 1, rfl, rfl, ?_, ?_, ?_, ?_, ?_, ?_, ?_, ?_, ?_⟩ <;> (first | (simp [go_sem]; done) | omega | (simp; omega) | (intro i hi; simp [go_sem, hi]; done) | (intro i; simp [go_sem]; done) | ((repeat (first | exact Below.refl _ _ | refine Below.drew ?_ | refine Below.alloc ?_ (by simp <;> omega) _)); done)))
          | (refine ⟨_, _, w1.heap.size + 1, w1.heap.size + 1 + 1 + 1, rfl, rfl, ?_, ?_, ?_, ?_, ?_, ?_, ?_, ?_, ?_⟩ <;> (first | (simp [go_sem]; done) | omega | (simp; omega) | (intro i hi; simp [go_sem, hi]; done) | (intro i; simp [go_sem]; done) | ((repeat (first | exact Below.refl _ _ | refine Below.drew ?_ | refine Below.alloc ?_ (by simp <;> omega) _)); done)))
          | (refine ⟨_, _, w1.heap.size + 1 + 1, w1.heap.size, rfl, rfl, ?_, ?_, ?_, ?_, ?_, ?_, ?_, ?_, ?_⟩ <;> (first | (simp [go_sem]; done) | omega | (simp; omega) | (intro i hi; simp [go_sem, hi]; done) | (intro i; simp [go_sem]; done) | ((repeat (first | exact Below.refl _ _ | refine Below.drew ?_ | refine Below.alloc ?_ (by simp <;> omega) _)); done)))
          | (refine ⟨_, _, w1.heap.size + 1 + 1, w1.heap.size + 1, rfl, rfl, ?_, ?_, ?_, ?_, ?_, ?_, ?_, ?_, ?_⟩ <;> (first | (simp [go_sem]; done) | omega | (simp; omega) | (intro i hi; simp [go_sem, hi]; done) | (intro i; simp [go_sem]; done) | ((repeat (first | exact Below.refl _ _ | refine Below.drew ?_ | refine Below.alloc ?_ (by simp <;> omega) _)); done)))
          | (refine ⟨_, _, w1.heap.size + 1 + 1, w1.heap.size + 1 + 1 + 1, rfl, rfl, ?_, ?_, ?_, ?_, ?_, ?_, ?_, ?_, ?_⟩ <;> (first | (simp [go_sem]; done) | omega | (simp; omega) | (intro i hi; simp [go_sem, hi]; done) | (intro i; simp [go_sem]; done) | ((repeat (first | exact Below.refl _ _ | refine Below.drew ?_ | refine Below.alloc ?_ (by simp <;> omega) _)); done)))
          | (refine ⟨_, _, w1.heap.size + 1 + 1 + 1, w1.heap.size, rfl, rfl, ?_, ?_, ?_, ?_, ?_, ?_, ?_, ?_, ?_⟩ <;> (first | (simp [go_sem]; done) | omega | (simp; omega) | (intro i hi; simp [go_sem, hi]; done) | (intro i; simp [go_sem]; done) | ((repeat (first | exact Below.refl _ _ | refine Below.drew ?_ | refine Below.alloc ?_ (by simp <;> omega) _)); done)))
          | (refine ⟨_, _, w1.heap.size + 1 + 1 + 1, w1.heap.size + 1, rfl, rfl, ?_, ?_, ?_, ?_, ?_, ?_, ?_, ?_, ?_⟩ <;> (first | (simp [go_sem]; done) | omega | (simp; omega) | (intro i hi; simp [go_sem, hi]; done) | (intro i; simp [go_sem]; done) | ((repeat (first | exact Below.refl _ _ | refine Below.drew ?_ | refine Below.alloc ?_ (by simp <;> omega) _)); done)))
          | (refine ⟨_, _, w1.heap.size + 1 + 1 + 1, w1.heap.size + 1 + 1, rfl, rfl, ?_, ?_, ?_, ?_, ?_, ?_, ?_, ?_, ?_⟩ <;> (first | (simp [go_sem]; done) | omega | (simp; omega) | (intro i hi; simp [go_sem, hi]; done) | (intro i; simp [go_sem]; done) | ((repeat (first | exact Below.refl _ _ | refine Below.drew ?_ | refine Below.alloc ?_ (by simp <;> omega) _)); done)))
      case rest =>
        obtain ⟨po, pc, gl, gb, rfl, rfl, h1, h2, h3, h4, h5, h6, ⟨o1, o2, o3, o4⟩, ⟨k1, k2, k3, k4, k5, k6, k7⟩, hb⟩ := hcut
        have z1 := World.block_lt_of_cell? wc _ h1
        have z2 := World.block_lt_of_cell? wc _ h2
        have z3 := World.block_lt_of_cell? wc _ h3
        simp only at z1 z2 z3
        have hszc := hb.size
        have r0 : wc.cell? ⟨w.heap.size, 0, none⟩ = some (.slice b ps.length c') := by rw [bcell1 hb (by omega)]; exact q0
        have r1 : wc.cell? ⟨w.heap.size + 1, 0, none⟩ = some (.func (.func f) #[] caps) := by rw [bcell1 hb (by omega)]; exact q1
        have hbw : Below w.heap.size w wc := bnext HB1.out hb (Nat.le_refl _)
        have hA := below_alloc wc (.cells #[.func (.func 236) #[] #[.pointer (some ⟨w.heap.size, 0, none⟩), .pointer (some ⟨w.heap.size + 1, 0, none⟩), .pointer (some ⟨po, 0, none⟩), .pointer (some ⟨pc, 0, none⟩), .pointer (some ⟨wc.heap.size, 0, none⟩)]] 240)
        have hE : Enm (wc.alloc (.cells #[.func (.func 236) #[] #[.pointer (some ⟨w.heap.size, 0, none⟩), .pointer (some ⟨w.heap.size + 1, 0, none⟩), .pointer (some ⟨po, 0, none⟩), .pointer (some ⟨pc, 0, none⟩), .pointer (some ⟨wc.heap.size, 0, none⟩)]] 240)) w.heap.size
            [(w.heap.size, .slice b ps.length c'), (w.heap.size + 1, .func (.func f) #[] caps), (po, .pointer (some ⟨gl, 0, none⟩)), (pc, .slice (some ⟨gb, 0, none⟩) ps.length ps.length), (wc.heap.size, .func (.func 236) #[] #[.pointer (some ⟨w.heap.size, 0, none⟩), .pointer (some ⟨w.heap.size + 1, 0, none⟩), .pointer (some ⟨po, 0, none⟩), .pointer (some ⟨pc, 0, none⟩), .pointer (some ⟨wc.heap.size, 0, none⟩)])]
            gb gl (List.replicate ps.length 0) [] [] 34 := by
          refine Init.enm (by rw [bcell1 hA z3]; exact h3) (by rw [hA.frozen (p := ⟨gl, 0, none⟩) z3]; exact h4) (fun i hi => by rw [bcell1 hA k1]; exact h5 i hi) (fun i => by rw [hA.frozen (p := ⟨gb, i, none⟩) k1]; exact h6 i) (by simp; omega) k7 ⟨by omega, by omega, by simp; omega⟩ ?_
          intro p v hp
          simp only [List.mem_cons, Prod.mk.injEq, List.not_mem_nil, or_false] at hp
          rcases hp with ⟨rfl, rfl⟩ | ⟨rfl, rfl⟩ | ⟨rfl, rfl⟩ | ⟨rfl, rfl⟩ | ⟨rfl, rfl⟩
          · exact ⟨by rw [bcell1 hA (by omega)]; exact r0, by omega, by omega⟩
          · exact ⟨by rw [bcell1 hA (by omega)]; exact r1, by omega, by omega⟩
          · exact ⟨by rw [bcell1 hA z1]; exact h1, by omega, by omega⟩
          · exact ⟨by rw [bcell1 hA z2]; exact h2, by omega, by omega⟩
          · exact ⟨by simp [go_sem], by omega, by omega⟩
        have hwa : Below w.heap.size w (wc.alloc (.cells #[.func (.func 236) #[] #[.pointer (some ⟨w.heap.size, 0, none⟩), .pointer (some ⟨w.heap.size + 1, 0, none⟩), .pointer (some ⟨po, 0, none⟩), .pointer (some ⟨pc, 0, none⟩), .pointer (some ⟨wc.heap.size, 0, none⟩)]] 240)) := hbw.alloc hbw.size _
        have hsx : SlI (fun g => g ≠ gb ∧ g ≠ gl ∧ g ∉ ([] : List Nat)) (wc.alloc (.cells #[.func (.func 236) #[] #[.pointer (some ⟨w.heap.size, 0, none⟩), .pointer (some ⟨w.heap.size + 1, 0, none⟩), .pointer (some ⟨po, 0, none⟩), .pointer (some ⟨pc, 0, none⟩), .pointer (some ⟨wc.heap.size, 0, none⟩)]] 240)) a xs := by
          have h1 : SlI (fun g => g < w.heap.size) w a xs := HX.out.wider (fun g hg _ => hg)
          exact (h1.below hwa).wider (fun g _ hg => ⟨by omega, by omega, by simp⟩)
        have hcall := packFrom_c f caps P hcall w xs.length b c' ps HY.out (by omega) HAT (Lib.hid fun w' a c rest h1 h2 h3 => hf.out w' a c rest h1 h2 h3 HCD.out) hp8 gb gl w.heap.size (w.heap.size + 1) po pc wc.heap.size _ rfl ps.length 0 (List.replicate ps.length 0) [] [] _ 0 a c xs rfl (by omega) (by simp) (by simp) hwa hE hsx rfl HSM.out
        have HCL := Lib.hid hcall
        have HB := Lib.hid hbw
        have HE := Lib.hid hE
        clear hE hcall hbw hb h1 h2 h3 h4 h5 h6 hsx hwa hA q0 q1 y1 y2 y3 y4
        go_wp2_with fail
        refine HCL.out.mono ?_
        rintro e w2 ⟨he, bs', G', hE', -, -, hc', hm'⟩
        have hlen : (capA [] ((packs P (ps.drop 0) xs).map ((List.replicate ps.length (0 : Int)).take 0 ++ ·))) = (packs P ps xs).take 2001 := by simp [capA]
        rw [hlen] at he hE'
        subst he
        have o5 := (hE'.caps po _ (.tail _ (.tail _ (.head _)))).1
        have hb1 : Below w.heap.size w w2 := (HB.out.alloc (by have := HB.out.size; omega) _).trans (hc'.below (by have := HB.out.size; simp; omega) (fun g hg => by simp at hg; rcases hg with rfl | rfl <;> omega))
        have hres := result_c w.heap.size gl _ G' w w2 hE'.box hb1 (Nat.le_refl _) (by simp; omega)
        rw [lim_take] at hres
        have HR := Lib.hid hres
        clear hE' hc' hm' hb1 hres hlen
        go_wp2_with fail
        refine HR.out.mono ?_
        rintro e w3 ⟨v, F, rfl, h1, h2, h3, h4⟩
        have HXX := Lib.hid (show RetLists w (lim (packs P ps xs)) _ w3 from ⟨v, F, rfl, h1, h2, h3, h4⟩)
        clear h1 h2 h3 h4
        go_wp2
        go_ret2
        exact HXX.out
  · have hne : (asked xs ps != 0) = true := by simpa using hcode
    have ev : packingsS (fun _ => P) xs ps = ([], asked xs ps) := by rw [packingsS, if_neg hcode]
    rw [ev]
    clear ev hcode
    go_enter Try.func169, Try.ntmps169
    go_wp2_with fail
    refine HC.out.mono ?_
    rintro e w1 ⟨rfl, hb1⟩
    have HB1 := Lib.hid (HB0.out.trans (hb1.mono (by simp <;> omega)))
    clear hb1
    go_wp2
    go_ret2
    exact RetDC.none _ _ _ HB1.out
theorem maxPack1_c (a b : Option Addr) (c c' : Nat) (rest : List Int) (ps : List (List Int)) (p : Nat) (w : World) (hx : SlI Any w a rest) (hy : SlII Any w b ps) (hp : w.cell? ⟨p, 0, none⟩ = some (.slice b ps.length c')) (hl : Hid (∀ j, j < ps.length → (nthR ps j).length ≤ rest.length)) :
    Calls Try.prog 170 #[.slice a rest.length c, .pointer (some ⟨p, 0, none⟩)] w (RetV w (.bool (fullS rest ps))) := by
  go_enter Try.func170, Try.ntmps170
  go_wp2_with fail
  refine (isFull_c a b c c' rest ps w hx hy hl).mono ?_
  rintro e w' ⟨rfl, hb⟩
  have HB := Lib.hid hb
  clear hb
  go_wp2
  go_ret
  exact ⟨rfl, HB.out⟩
theorem exactPack1_c (a : Option Addr) (c : Nat) (rest : List Int) (w : World) (hx : SlI Any w a rest) :
    Calls Try.prog 172 #[.slice a rest.length c] w (RetV w (.bool (sumS rest == 0))) := by
  go_enter Try.func172, Try.ntmps172
  go_wp2_with fail
  refine (bagSize_c Any a c rest w hx).mono ?_
  rintro e w' ⟨rfl, rfl⟩
  go_wp2
  go_ret
  exact ⟨rfl, Below.refl _ _⟩
set_option maxHeartbeats 1000000 in
theorem implMaximalPackings_d (xs : List Int) (ps : List (List Int)) {v u : Value} (w : World) (h1 : Rd Any w (dI xs) v) (h2 : Rd Any w (dII ps) u) (hlp : ps.length ≤ 16777216) :
    Calls Try.prog 64 #[v, u] w (RetLists w (packingsS maxP xs ps)) := by
  obtain ⟨a, c, rfl, hx⟩ := Rd_I.1 h1
  obtain ⟨b, c', rfl, hy⟩ := Rd_II.1 h2
  clear h1 h2
  have hb := below_alloc w (.cells #[.slice b ps.length c'] 39)
  have HC := Lib.hid (packings_c 170 #[.pointer (some ⟨w.heap.size, 0, none⟩)] (maxP ps) (callFunc_run Try.func170 (by kernel_rfl) rfl) a b c c' xs ps _ (hx.below hb) (hy.below hb) hlp
    (Lib.hid fun w' a' d' rest h1 h2 h3 h4 => maxPack1_c a' b d' c' rest ps w.heap.size w' h2 ((hy.below hb).below h1) (by rw [bcell1 h1 (by simp)]; simp [go_sem]) (Lib.hid fun j hj => by have := (askS_at (asked_ok h4).2 hj).2.1; omega)))
  have HB := Lib.hid hb
  clear hb hx hy
  go_enter Try.func64, Try.ntmps64
  go_wp2_with fail
  refine HC.out.mono ?_
  rintro e w3 ⟨v, F, rfl, h1, h2, h3, h4⟩
  have HXX := Lib.hid (show RetLists w (packingsS maxP xs ps) _ w3 from RetDC.from HB.out ⟨v, F, rfl, h1, h2, h3, h4⟩)
  clear h1 h2 h3 h4
  go_wp2
  go_ret2
  exact HXX.out
set_option maxHeartbeats 1000000 in
theorem implExactPackings_d (xs : List Int) (ps : List (List Int)) {v u : Value} (w : World) (h1 : Rd Any w (dI xs) v) (h2 : Rd Any w (dII ps) u) (hlp : ps.length ≤ 16777216) :
    Calls Try.prog 65 #[v, u] w (RetLists w (packingsS exactP xs ps)) := by
  obtain ⟨a, c, rfl, hx⟩ := Rd_I.1 h1
  obtain ⟨b, c', rfl, hy⟩ := Rd_II.1 h2
  clear h1 h2
  have HC := Lib.hid (packings_c 172 #[] (exactP ps) (callFunc_run Try.func172 (by kernel_rfl) rfl) a b c c' xs ps _ hx hy hlp
    (Lib.hid fun w' a' d' rest h1 h2 h3 h4 => exactPack1_c a' d' rest w' h2))
  clear hx hy
  go_enter Try.func65, Try.ntmps65
  go_wp2_with fail
  refine HC.out.mono ?_
  rintro e w3 ⟨v, F, rfl, h1, h2, h3, h4⟩
  have HXX := Lib.hid (show RetLists w (packingsS exactP xs ps) _ w3 from ⟨v, F, rfl, h1, h2, h3, h4⟩)
  clear h1 h2 h3 h4
  go_wp2
  go_ret2
  exact HXX.out

/- All packings of a bag: the reference's functions. Written by mkpl.py. -/
theorem nthR_drop {ps : List (List Int)} {k : Nat} (h : k < ps.length) : ps.drop k = nthR ps k :: ps.drop (k + 1) := by rw [nthR_lt h, List.drop_eq_getElem_cons h]
theorem Box.rd {E : TypeId} {w : World} {B gl : Nat} {L : List (List Int)} {G : List Nat} (h : Box E 1 w B gl L.length (L.map dI) G) : ∃ a c, w.cell? ⟨gl, 0, none⟩ = some (.slice a L.length c) := by
  obtain ⟨v, h1, h2⟩ := h.has
  obtain ⟨_, a, c, rfl⟩ := h2.val
  exact ⟨a, c, h1⟩
set_option maxHeartbeats 4000000 in
set_option maxRecDepth 100000 in
theorem l01Pack_c (w0 : World) (M : Nat) (ab : Option Addr) (cb : Nat) (ps : List (List Int)) (hsl : SlII Any w0 ab ps) (hM : M ≤ 8) (hat : Hid (∀ k, k < ps.length → isBagS (nthR ps k) = true ∧ (nthR ps k).length = M ∧ ¬ sumS (nthR ps k) = 0)) (hK : ps.length ≤ 8) (gl : Nat) (hgl : w0.heap.size ≤ gl) :
    ∀ (r : Nat) (p : List Int) (L : List (List Int)) (G : List Nat) (w : World) (ar : Option Addr) (cr : Nat) (rest : List Int) (ad : Option Addr) (c : Nat), ps.length = p.length + r → L.length ≤ 2000 → Below w0.heap.size w0 w → Box 34 1 w w0.heap.size gl L.length (L.map dI) G → SlI (fun g => g ≠ gl ∧ g ∉ G) w ar rest → rest.length = M → small rest → SlI (fun g => g ≠ gl ∧ g ∉ G) w ad p →
    Calls Try.prog 235 #[.slice ar rest.length cr, .slice ab ps.length cb, .slice ad p.length c, .pointer (some ⟨gl, 0, none⟩)] w (OutPost w w0.heap.size gl (capA L ((packs (maxP ps) (ps.drop p.length) rest).map (p ++ ·))) G 34) := by
  intro r
  induction r with
  | zero =>
    intro p L G w ar cr rest ad c hKr hL hw hb hrest hrl hrs hp
    have ht : ((p.length : Int) == (ps.length : Int)) = true := by simp; omega
    have hdrop : ps.drop p.length = [] := List.drop_eq_nil_of_le (by omega)
    have hpl : p.length ≤ 8 := by omega
    rw [hdrop]
    have HBX := Lib.hid hb
    have HF := Lib.hid (l01Full_c ar ab cr cb rest ps w hrest.any (hsl.below hw) (Lib.hid fun j hj => by have := (hat.out j hj).2.1; omega))
    cases hP : maxP ps rest
    · have hP' := hP
      rw [show fullS rest ps = false from hP] at HF
      have hone : capA L ((packs (maxP ps) [] rest).map (p ++ ·)) = L := by simp [packs, hP, capA_nil (show L.length ≤ 2001 by omega)]
      rw [hone]
      clear hone hP hb hdrop hrest hrl hrs hp hKr
      go_enter Try.func235, Try.ntmps235
      go_wp2_with fail
      refine HF.out.mono ?_
      rintro e w1 ⟨rfl, n, rfl⟩
      have HB6 := Lib.hid (HBX.out.keep (F' := []) (Chg.ofBelow (below_drewN _ w n)) (by simp))
      go_wp2
      go_end0
      exact ⟨rfl, G, HB6.out, Chg.ofBelow (below_drewN _ w n), fun g hg => .inl hg⟩
    · have hP' := hP
      rw [show fullS rest ps = true from hP] at HF
      have hone : capA L ((packs (maxP ps) [] rest).map (p ++ ·)) = L ++ [p] := by simp [packs, hP, capA_one hL]
      rw [hone]
      obtain ⟨v, hc, hLs⟩ := hb.has
      obtain ⟨hdl, a, cp, rfl⟩ := hLs.val
      have hfr := hb.free
      have hlt := hb.lt
      have HLS := Lib.hid hLs
      have HO := Lib.hid hb.out
      have HLT := Lib.hid hlt
      have hB := hw.size
      have hrun := callFunc_run Try.func119 (by kernel_rfl) rfl
      have hown : ∀ wx, Below w.heap.size w wx → Calls Try.prog 119 #[.slice ad p.length c] wx (RetD wx (dI p)) := fun wx h => (l00OwnN_c Any ad c p wx (hp.any.below h) (by omega)).mono fun e w' h => h.d (by unfold maxLen; omega)
      have HOW := Lib.hid hown
      clear hone hP hb hdrop hrest hrl hrs hp hKr hLs hlt hown
      go_enter Try.func235, Try.ntmps235
      go_wp2_with fail
      refine HF.out.mono ?_
      rintro e w1 ⟨rfl, n, rfl⟩
      go_wp2
      go_region_law (first
        | (refine step_callD rfl 119 #[.tmp 23] _ rfl hrun #[.slice ad p.length c] (by first | rfl | (simp [Act.eval]; done) | (simp [Act.eval]; rfl)) (dI p) (HOW.out _ (below_drewN _ w (n + 1))) ?_; intro v1 F1 w1 hb1 ho1 hn1 hl1; obtain ⟨a1, c1, rfl⟩ := ho1.val; have f1 := (bcell1 (i := 0) hb1 HLT.out.1).trans hc; have f1b := fun (o : Obj) => (bcell1 (i := 0) (below_alloc w1 o) (by have h3 : w.heap.size ≤ w1.heap.size := hb1.size; have := HLT.out.1; omega)).trans f1)
        | (refine step_lst rfl (.tmp 22) (.tmp 25) 39 rfl tabII rfl (by omega) (by decide) w0.heap.size _ L.length (L.map dI) [dI p] G F1 [.slice a1 p.length c1] rfl (HLS.out.below (((below_drewN _ w (n + 1)).trans hb1).alloc hb1.size _)) w1.heap.size rfl ⟨⟨F1, [], ho1.below (below_alloc _ _), rfl, by simp⟩, rfl, hn1, fun x hx => Nat.le_trans hB (hl1 x hx), fun x hx hg => (by have h9 : w.heap.size ≤ x := hl1 x hx; have := (HLT.out.2 x hg).2; omega), (fun j u hu => by match j, hu with | 0, hu => (simp at hu; subst hu; simp)), by simp [Value.oneCell']⟩ (by omega) (by have h3 : w.heap.size ≤ w1.heap.size := hb1.size; first | omega | (simp; omega)) ?_; intro v2 w2 G2 hN; obtain ⟨_, a2, c2, rfl⟩ := hN.lst.val; have hz1 : w.heap.size ≤ w1.heap.size := hb1.size; have z2 : gl < (w1.alloc (.cells #[.slice a1 p.length c1] 34)).heap.size := (by have := HLT.out.1; first | omega | (simp; omega)); have f2 := (hN.chg.cell (b := gl) z2 (fun hg => HO.out (ob_sub HLS.out _ hg)) 0).trans ((bcell1 (below_alloc _ _) (by have := HLT.out.1; omega)).trans f1); have e2 : w2.frozen? ⟨gl, 0, none⟩ = false := (hN.chg.frozen (b := gl) z2 (fun hg => HO.out (ob_sub HLS.out _ hg)) 0).trans ((((below_drewN _ w (n + 1)).trans hb1).alloc hz1 _).frozen (p := ⟨gl, 0, none⟩) HLT.out.1 |>.trans hfr)))
      all_goals
        have hG : ∀ g, g ∈ G2 → g ∈ G ∨ w.heap.size ≤ g := fun g hg => by
          rcases hN.mem g hg with h | h | h
          · exact .inl h
          · exact .inr (hl1 g h)
          · refine .inr ?_
            have h' : w1.heap.size + 1 ≤ g := by simpa using h
            omega
        have hch : Chg (gl :: G) w w2 := (Chg.ofBelow ((below_drewN _ w (n + 1)).trans hb1)).trans ((Chg.ofBelow (below_alloc _ _)).trans (hN.chg.wider (fun k hk => List.mem_cons_of_mem _ (ob_sub HLS.out _ hk))))
        have hng : gl ∉ G2 := fun h => by
          rcases hG gl h with h | h
          · exact HO.out h
          · have := HLT.out.1; omega
        have HS := Lib.hid (World.cell?_setCell_same w2 ⟨gl, 0, none⟩ (.slice a2 (L.length + 1) c2) f2)
        have HLN := Lib.hid (hN.lst.keep (chg_set w2 ⟨gl, 0, none⟩ (.slice a2 (L.length + 1) c2) [gl] (by simp)) (fun g hg => by simp; rintro rfl; exact hng hg))
        have HE := Lib.hid e2
        have HCH := Lib.hid (hch.trans (chg_set w2 ⟨gl, 0, none⟩ (.slice a2 (L.length + 1) c2) (gl :: G) (by simp)))
        have HG := Lib.hid hG
        have HNG := Lib.hid hng
        clear hN hch hG hng e2 hb1 ho1 hl1 hn1
        go_wp2
        go_end0
        refine ⟨rfl, G2, ?_, HCH.out, HG.out⟩
        exact ⟨by rw [World.frozen?_setCell]; exact HE.out, ⟨_, HS.out, by have := HLN.out; simpa using this⟩, HNG.out⟩
  | succ r ih =>
    intro p L G w ar cr rest ad c hKr hL hw hb hrest hrl hrs hp
    have ht : ((p.length : Int) == (ps.length : Int)) = false := by simp; omega
    have hkb0 : p.length < ps.length := by omega
    have hk2 : (p.length : Int) < ps.length := by omega
    have hat0 := hat.out p.length hkb0
    have hlen : (nthR ps p.length).length = rest.length := by omega
    have htb := timesS_bd hlen hrs
    obtain ⟨l, hl⟩ : ∃ l : Nat, timesS (nthR ps p.length) rest = l := ⟨(timesS (nthR ps p.length) rest).toNat, by omega⟩
    have hl1 : l ≤ 1000 := by omega
    have hr8 : rest.length ≤ 8 := by omega
    have hpl : p.length ≤ 8 := by omega
    obtain ⟨ap, cp, g00, hs0⟩ := hsl.cell p.length hkb0
    have i0 := hsl.ix tabII.under tabII.size cb
    have HP0 := Lib.hid (And.intro g00 hs0)
    have HAT := Lib.hid hat0
    have HLEN := Lib.hid hlen
    have HRS := Lib.hid hrs
    have HL0 := Lib.hid hl
    have HW := Lib.hid hw
    have HK := Lib.hid hKr
    have HREST := Lib.hid hrest
    have HRL := Lib.hid hrl
    have HBX := Lib.hid hb
    have HPP := Lib.hid hp
    have IH := Lib.hid ih
    clear hKr hw hb hrest hrl hrs hp ih hat0 hlen htb hl g00 hs0
    go_enter Try.func235, Try.ntmps235
    go_wp2
    go_loopw [9] (fun i0 wr => ∃ (j : Nat) (L' : List (List Int)) (G' : List Nat), j ≤ l + 1 ∧ i0 = .int .i64 j ∧ Hid (L' = capA L (packsTo (maxP ps) (ps.drop (p.length + 1)) (nthR ps p.length) rest p j)) ∧ L'.length ≤ 2001 ∧ Box 34 1 wr w0.heap.size gl L'.length (L'.map dI) G' ∧ Chg (gl :: G) w wr ∧ (∀ g, g ∈ G' → g ∈ G ∨ w.heap.size ≤ g)) (fun i0 _ => l + 1 - (intOf i0).toNat)
    case atStart => exact ⟨0, L, G, by omega, rfl, Lib.hid (by simp [packsTo, capA_nil (show L.length ≤ 2001 by omega)]), by omega, HBX.out, Chg.refl _ _, fun g hg => .inl hg⟩
    case round =>
      obtain ⟨j, L', G', hj, rfl, hL', hn', hb', hc', hm'⟩ := hrel
      have hwr : Below w0.heap.size w0 wr := HW.out.trans (hc'.below HW.out.size (fun g hg => by
        simp at hg
        rcases hg with rfl | hg
        · exact hgl
        · exact (HBX.out.lt.2 g hg).1))
      have hrw := HREST.out.keep hc' (fun g hg => by simp; exact hg)
      have hpw := HPP.out.keep hc' (fun g hg => by simp; exact hg)
      have g0 := (hwr.cell (World.block_lt_of_cell? w0 _ HP0.out.1)).trans HP0.out.1
      have htm := l01Times_c Any ap ar cp cr _ _ wr (HP0.out.2.below hwr) hrw.any (Nat.le_of_eq HLEN.out) (fun j hj => isBagS_small HAT.out.1 j hj) (fun j hj => HRS.out j (by have := HLEN.out; omega))
      rw [best_times HAT.out.1 HAT.out.2.2, HL0.out] at htm
      have HT := Lib.hid htm
      obtain ⟨ao, co, gout⟩ := hb'.rd
      have HB' := Lib.hid hb'
      have HCH := Lib.hid hc'
      have HM := Lib.hid hm'
      have HWR := Lib.hid hwr
      have HRW := Lib.hid hrw
      have HPW := Lib.hid hpw
      clear hb' hc' hm' hwr hrw hpw htm
      by_cases hlt : j ≤ l
      · by_cases hfl : L'.length ≤ 2000
        · have hwj : IntKind.i64.wrap (-(j : Int)) = -(j : Int) := by rw [IntKind.wrap_i64]; omega
          have HPL : Hid (∀ n, Calls Try.prog 265 #[.slice ar rest.length cr, .slice ap (nthR ps p.length).length cp, .int .i64 (-(j : Int))] (wr.drewN n) (RetD (wr.drewN n) (dI (plusS rest (nthR ps p.length) (-(j : Int)))))) :=
            Lib.hid (fun n => l01Plus_c Any ar ap cr cp _ _ _ _ (HRW.out.any.below (below_drewN _ wr n)) ((HP0.out.2.below HWR.out).below (below_drewN _ wr n)) (by have := HLEN.out; omega) (by omega))
          have HSM : Hid (small (plusS rest (nthR ps p.length) (-(j : Int)))) := Lib.hid (take_small HLEN.out HRS.out (isBagS_small HAT.out.1) (by omega) (by have := HL0.out; omega))
          go_wp2_with fail
          refine HT.out.mono ?_
          rintro e w1 ⟨rfl, n, rfl⟩
          go_wp2_with fail
          refine (HPL.out n).mono ?_
          rintro e w2 ⟨v2, F2, rfl, hb2, ho2, hn2, hF2⟩
          have hb2' : Below wr.heap.size wr w2 := (below_drewN _ wr n).trans hb2
          have hz2 := hb2'.size
          obtain ⟨a2, c2, rfl⟩ := ho2.val
          have HO2 := Lib.hid ho2
          have HF2 : Hid (∀ g, g ∈ F2 → wr.heap.size ≤ g) := Lib.hid hF2
          have HB2 := Lib.hid hb2'
          clear ho2 hn2 hF2 hb2 hb2' g0 gout
          go_wp2_with fail
          refine (l00OwnN_c Any ad c p w2 (HPW.out.any.below HB2.out) (by omega)).mono ?_
          rintro e w3 ⟨v3, rfl, hb3, hl3⟩
          have hz3 := hb3.size
          have hl3' := hl3.below (below_alloc w3 (.cells #[.int .i64 j] 2))
          have HB3 := Lib.hid hb3
          clear hb3 hl3
          go_wp2_with (at_builtin; refine app_one rfl _ _ 34 rfl tabI rfl (by decide) w2.heap.size _ _ rfl hl3' w3.heap.size (.int .i64 j) rfl rfl ?c1 ?c2 ?c3 ?_)
          case c1 => simp [go_sem]
          case c2 => simp; omega
          case c3 => simp; omega
          intro v4 w4 hl4 hb4
          obtain ⟨a4, c4, F4, rfl, ho4, hn4, hF4⟩ := (show Bld 2 w4 w2.heap.size v4 ((p ++ [(j : Int)]).map (.int .i64)) from (by simpa using hl4)).ow (by simp; unfold maxLen; omega)
          have hw4 : Below w2.heap.size w2 w4 := (HB3.out.alloc hz3 _).trans hb4
          have hbr : Below wr.heap.size wr w4 := bnext HB2.out hw4 (Nat.le_refl _)
          have hbx4 := HB'.out.keep (F' := []) (Chg.ofBelow hbr) (by simp)
          have hglt := HB'.out.lt
          obtain ⟨a2', c2', e2, hs2⟩ := (Ow.below HO2.out hw4).slI
          cases e2
          obtain ⟨a4', c4', e4, hs4⟩ := ho4.slI
          cases e4
          have hcall := IH.out (p ++ [(j : Int)]) L' G' w4 a2 c2 (plusS rest (nthR ps p.length) (-(j : Int))) a4 c4 (by have := HK.out; simp; omega) hfl (bnext HWR.out hbr (Nat.le_refl _)) hbx4
            (hs2.wider (fun g _ hg => by have := HF2.out g hg; exact ⟨by have := hglt.1; omega, fun hG => by have := (hglt.2 g hG).2; omega⟩)) (by rw [plusS_len]; exact HRL.out) HSM.out
            (hs4.wider (fun g _ hg => by have := hF4 g hg; exact ⟨by have := hglt.1; omega, fun hG => by have := (hglt.2 g hG).2; omega⟩))
          obtain ⟨L2, hL2⟩ : ∃ L2, L2 = capA L (packsTo (maxP ps) (ps.drop (p.length + 1)) (nthR ps p.length) rest p (j + 1)) := ⟨_, rfl⟩
          have hL2' : capA L' ((packs (maxP ps) (ps.drop (p.length + 1)) (plusS rest (nthR ps p.length) (-(j : Int)))).map (p ++ [(j : Int)] ++ ·)) = L2 := by
            rw [hL2, hL'.out, capA_capA, packsTo_succ]; simp
          have hlen2 : (p ++ [(j : Int)]).length = p.length + 1 := by simp
          rw [hlen2, hL2'] at hcall
          have hL2le : L2.length ≤ 2001 := by rw [hL2]; exact capA_len _ _
          have HL2 := Lib.hid hL2
          have HCL := Lib.hid hcall
          have HBR := Lib.hid hbr
          clear hcall hL2 hL2' hlen2 hw4 hbr hbx4 hglt hs2 hs4 ho4 hn4 hF4 hl4 hb4 hl3'
          go_wp2_with fail
          refine HCL.out.mono ?_
          rintro e w5 ⟨rfl, G3, hb5, hc5, hm5⟩
          have HB5 := Lib.hid hb5
          have HR : Hid (Chg (gl :: G) w w5 ∧ ∀ g, g ∈ G3 → g ∈ G ∨ w.heap.size ≤ g) := Lib.hid (by
            have h1 := HCH.out.size
            have h2 := HBR.out.size
            refine ⟨HCH.out.comp ((Chg.ofBelow (F := gl :: G') HBR.out).trans hc5) (fun g hg => ?_), fun g hg => ?_⟩
            · simp at hg ⊢
              rcases hg with h | h
              · exact .inl (.inl h)
              · rcases HM.out g h with h | h
                · exact .inl (.inr h)
                · exact .inr h
            · rcases hm5 g hg with hh | hh
              · exact HM.out g hh
              · exact .inr (by omega))
          clear hb5 hc5 hm5
          go_wp2
          go_roundw
          case rel => exact ⟨j + 1, L2, G3, by omega, by go_num, HL2, hL2le, HB5.out, HR.out.1, HR.out.2⟩
          case measure => simp [intOf]; omega
        · have hfl2 : ¬ (L'.length : Int) ≤ 2000 := by omega
          have hfull : capA L ((packs (maxP ps) (ps.drop p.length) rest).map (p ++ ·)) = L' := by
            obtain ⟨tl, hr⟩ := packsTo_split (maxP ps) (ps.drop (p.length + 1)) (nthR ps p.length) rest p (show j ≤ l + 1 by omega)
            rw [nthR_drop hkb0, ← packsTo_full, HL0.out, Int.toNat_natCast, hr, capA_full tl (by rw [← hL'.out]; exact hfl), ← hL'.out]
          have HFULL := Lib.hid hfull
          clear hfull
          go_wp2_with fail
          refine HT.out.mono ?_
          rintro e w1 ⟨rfl, n, rfl⟩
          have HB6 := Lib.hid (HB'.out.keep (F' := []) (Chg.ofBelow (below_drewN _ wr n)) (by simp))
          go_wp2
          go_end0
          rw [HFULL.out]
          exact ⟨rfl, G', HB6.out, HCH.out.trans (Chg.ofBelow ((below_drewN _ wr n))), HM.out⟩
      · have e : j = l + 1 := by omega
        have hfull : capA L ((packs (maxP ps) (ps.drop p.length) rest).map (p ++ ·)) = L' := by rw [nthR_drop hkb0, ← packsTo_full, HL0.out, Int.toNat_natCast, ← e, ← hL'.out]
        have HFULL := Lib.hid hfull
        clear hfull e
        go_wp2_with fail
        refine HT.out.mono ?_
        rintro e w1 ⟨rfl, n, rfl⟩
        have HB6 := Lib.hid (HB'.out.keep (F' := []) (Chg.ofBelow (below_drewN _ wr n)) (by simp))
        go_wp2
        go_end0
        rw [HFULL.out]
        exact ⟨rfl, G', HB6.out, HCH.out.trans (Chg.ofBelow ((below_drewN _ wr n))), HM.out⟩
/- All packings of a bag: the reference's exported functions. Written by mkpo.py. -/
set_option maxHeartbeats 2000000 in
theorem l01All_c (xs : List Int) (ps : List (List Int)) (a b : Option Addr) (c c' : Nat) (w : World) (hx : SlI Any w a xs) (hy : SlII Any w b ps) (hcode : asked xs ps = 0) :
    Calls Try.prog 168 #[.slice a xs.length c, .slice b ps.length c'] w (RetLists w (packingsS maxP xs ps)) := by
  obtain ⟨hA, hask⟩ := asked_ok hcode
  have hb8 := isBagS_len hA
  have hp8 := (askS_ok hask).2.1
  have HAT : Hid (∀ k, k < ps.length → isBagS (nthR ps k) = true ∧ (nthR ps k).length = xs.length ∧ ¬ sumS (nthR ps k) = 0) := Lib.hid (fun k hk => by have := askS_at hask hk; exact ⟨this.1, by omega, this.2.2⟩)
  have HSM := Lib.hid (isBagS_small hA)
  have HX := Lib.hid hx
  have HY := Lib.hid hy
  clear hA hask hx hy
  have HSZ := Lib.hid (l01Size_c Any a c xs w HX.out)
  by_cases hq : 16 < sumS xs
  · have ev : packingsS maxP xs ps = ([], 3) := by rw [packingsS, if_pos hcode, if_pos hq]
    rw [ev]
    clear ev hcode
    go_enter Try.func168, Try.ntmps168
    go_wp2_with fail
    refine HSZ.out.mono ?_
    rintro e w1 ⟨rfl, rfl⟩
    go_wp2
    go_ret2
    exact RetDC.none _ _ _ (below_alloc _ _)
  · have ev : packingsS maxP xs ps = lim (packs (maxP ps) ps xs) := by rw [packingsS, if_pos hcode, if_neg hq]
    rw [ev]
    clear ev hcode
    go_enter Try.func168, Try.ntmps168
    go_wp2_with fail
    refine HSZ.out.mono ?_
    rintro e w1 ⟨rfl, rfl⟩
    have hbx : Box 34 1 (((w.alloc (.cells #[] 34)).alloc (.cells #[.slice (some ⟨w.heap.size, 0, none⟩) 0 0] 39)).alloc (.cells #[] 2)) w.heap.size (w.heap.size + 1) ([] : List (List Int)).length (([] : List (List Int)).map dI) [w.heap.size] :=
      ⟨by simp [go_sem], ⟨_, by simp [go_sem], ((Lst.made 34 1 w w.heap.size (Nat.le_refl _)).below (below_alloc _ _)).below (below_alloc _ _)⟩, by simp⟩
    have hb0 : Below w.heap.size w (((w.alloc (.cells #[] 34)).alloc (.cells #[.slice (some ⟨w.heap.size, 0, none⟩) 0 0] 39)).alloc (.cells #[] 2)) := by repeat (first | exact Below.refl _ _ | refine Below.alloc ?_ (by simp <;> omega) _)
    have hsx : SlI (fun g => g ≠ w.heap.size + 1 ∧ g ∉ [w.heap.size]) (((w.alloc (.cells #[] 34)).alloc (.cells #[.slice (some ⟨w.heap.size, 0, none⟩) 0 0] 39)).alloc (.cells #[] 2)) a xs := by
      have h1 : SlI (fun g => g < w.heap.size) w a xs := HX.out.wider (fun g hg _ => hg)
      exact (h1.below hb0).wider (fun g _ hg => ⟨by omega, by simp; omega⟩)
    have hnil : SlI (fun g => g ≠ w.heap.size + 1 ∧ g ∉ [w.heap.size]) (((w.alloc (.cells #[] 34)).alloc (.cells #[.slice (some ⟨w.heap.size, 0, none⟩) 0 0] 39)).alloc (.cells #[] 2)) (some ⟨w.heap.size + 1 + 1, 0, none⟩) [] := ⟨by simp, fun h => absurd h (by simp), fun i hi => absurd hi (by simp)⟩
    have hcall := l01Pack_c w xs.length b c' ps HY.out (by omega) HAT hp8 (w.heap.size + 1) (by omega) ps.length [] [] [w.heap.size] _ a c xs (some ⟨w.heap.size + 1 + 1, 0, none⟩) 0 (by simp) (by simp) hb0 hbx hsx rfl HSM.out hnil
    have hnm : capA [] ((packs (maxP ps) (ps.drop ([] : List Int).length) xs).map (([] : List Int) ++ ·)) = (packs (maxP ps) ps xs).take 2001 := by simp [capA]
    rw [hnm] at hcall
    have HCL := Lib.hid hcall
    have HB0 := Lib.hid hb0
    clear hbx hnil hcall hnm hb0 hsx
    go_wp2_with fail
    refine HCL.out.mono ?_
    rintro e w1 ⟨rfl, G', hb', hc', hm'⟩
    have hb1 : Below w.heap.size w w1 := HB0.out.trans (hc'.below (by simp <;> omega) (fun g hg => by simp at hg; rcases hg with rfl | rfl <;> omega))
    obtain ⟨v, hc, hL⟩ := hb'.has
    obtain ⟨G2, hO, hN, hS⟩ := hL.ow (by omega) (by simp; unfold maxLen; omega)
    have hlt := hb'.lt
    obtain ⟨_, ao, cp, rfl⟩ := hL.val
    have HRD : Hid (RetDC w (dII ((packs (maxP ps) ps xs).take 2001)) 0 (.returned (.tuple #[.slice ao ((packs (maxP ps) ps xs).take 2001).length cp, .int .i64 0])) w1) := Lib.hid ⟨_, G2, rfl, hb1, hO, hN, fun g hg => (hlt.2 g (hS g hg)).1⟩
    have HB1 := Lib.hid hb1
    have HLT := Lib.hid (lim_take (packs (maxP ps) ps xs))
    have hlen : ((packs (maxP ps) ps xs).take 2001).length ≤ 2001 := by simp; omega
    obtain ⟨L2, hL2⟩ : ∃ L2, L2 = (packs (maxP ps) ps xs).take 2001 := ⟨_, rfl⟩
    rw [← hL2] at HRD HLT hc hlen
    clear hb' hc' hm' hb1 hL hO hN hS hlt hL2
    by_cases hq2 : L2.length ≤ 2000
    · have HF : Hid (RetLists w (lim (packs (maxP ps) ps xs)) (.returned (.tuple #[.slice ao L2.length cp, .int .i64 0])) w1) := Lib.hid (by rw [← HLT.out, lim, if_pos hq2]; exact HRD.out)
      go_wp2
      go_ret2
      exact HF.out
    · have HF : Hid (∀ a c w', Below w.heap.size w w' → RetLists w (lim (packs (maxP ps) ps xs)) (.returned (.tuple #[.slice a 0 c, .int .i64 3])) w') := Lib.hid (fun a c w' h => by rw [← HLT.out, lim, if_neg hq2]; exact RetDC.none _ _ _ h)
      go_wp2
      go_ret2
      exact HF.out _ _ _ (HB1.out.alloc HB1.out.size _)
set_option maxHeartbeats 2000000 in
theorem specMaximalPackings_d (xs : List Int) (ps : List (List Int)) {v u : Value} (w : World) (h1 : Rd Any w (dI xs) v) (h2 : Rd Any w (dII ps) u) :
    Calls Try.prog 63 #[v, u] w (RetLists w (packingsS maxP xs ps)) := by
  obtain ⟨a, c, rfl, hx⟩ := Rd_I.1 h1
  obtain ⟨b, c', rfl, hy⟩ := Rd_II.1 h2
  clear h1 h2
  have HC := Lib.hid (l01Asked_c Any Any a b c c' xs ps w hx hy)
  by_cases hcode : asked xs ps = 0
  · have HA := Lib.hid (l01All_c xs ps a b c c' w hx hy hcode)
    rw [hcode] at HC
    clear hcode
    go_enter Try.func63, Try.ntmps63
    go_wp2_with fail
    refine HC.out.mono ?_
    rintro e w0 ⟨rfl, rfl⟩
    go_wp2_with fail
    refine HA.out.mono ?_
    rintro e w3 ⟨v, F, rfl, h1, h2, h3, h4⟩
    have HXX := Lib.hid (show RetLists w (packingsS maxP xs ps) _ w3 from ⟨v, F, rfl, h1, h2, h3, h4⟩)
    clear h1 h2 h3 h4
    go_wp2
    go_ret2
    exact HXX.out
  · have hne : (asked xs ps != 0) = true := by simpa using hcode
    have ev : packingsS maxP xs ps = ([], asked xs ps) := by rw [packingsS, if_neg hcode]
    rw [ev]
    clear ev hcode
    go_enter Try.func63, Try.ntmps63
    go_wp2_with fail
    refine HC.out.mono ?_
    rintro e w0 ⟨rfl, rfl⟩
    go_wp2
    go_ret2
    exact RetDC.none _ _ _ (below_alloc _ _)
