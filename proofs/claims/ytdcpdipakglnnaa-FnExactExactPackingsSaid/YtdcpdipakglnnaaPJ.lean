/- All packings of a bag: the program's functions. -/
import Derived.Test.YtdcpdipakglnnaaPH
import Derived.Test.YtdcpdipakglnnaaBV
namespace Go.Proofs.Ytdcpdipakglnnaa
open Go.RowKit

theorem Chg.comp {F F' : List Nat} {w wr w1 : World} (h : Chg F w wr) (h2 : Chg F' wr w1) (hs : ∀ g, g ∈ F' → g ∈ F ∨ w.heap.size ≤ g) : Chg F w w1 :=
  ⟨h2.os.trans h.os, h2.tape.trans h.tape, h2.output.trans h.output, Nat.le_trans h.size h2.size, fun k hk hF => (h2.block k (Nat.lt_of_lt_of_le hk h.size) (fun hk' => (hs k hk').elim hF (by omega))).trans (h.block k hk hF)⟩
theorem Rd.keep {S : Nat → Prop} {w w' : World} {F : List Nat} {d : D} {v : Value} (r : Rd S w d v) (h : Chg F w w') (hs : ∀ g, S g → g ∉ F) : Rd S w' d v := by
  have r1 : Rd (fun k => S k ∧ k < w.heap.size) w d v := Rd.wider (fun k hk hs => ⟨hs, hk⟩) d v r
  have r2 : Rd (fun k => S k ∧ k < w.heap.size) w' d v := Rd.stable (fun k hk => h.block k hk.2 (hs k hk.1)) d v r1
  exact Rd.wider (fun k _ hs => hs.1) d v r2
theorem SlI.keep {S : Nat → Prop} {w w' : World} {F : List Nat} {a : Option Addr} {xs : List Int} (h : SlI S w a xs) (hc : Chg F w w') (hs : ∀ g, S g → g ∉ F) : SlI S w' a xs := by
  obtain ⟨a', c', e, h'⟩ := Rd_I.1 ((Rd_I.2 ⟨a, 0, rfl, h⟩).keep hc hs)
  cases e; exact h'
theorem SlI.wider {S T : Nat → Prop} {w : World} {a : Option Addr} {xs : List Int} (h : SlI S w a xs) (hs : ∀ g, g < w.heap.size → S g → T g) : SlI T w a xs := by
  obtain ⟨a', c', e, h'⟩ := Rd_I.1 (Rd.wider hs _ _ (Rd_I.2 ⟨a, 0, rfl, h⟩))
  cases e; exact h'
theorem Enm.next {w w' : World} {B : Nat} {C : List (Nat × Value)} {gb gl : Nat} {bs : List Int} {L : List (List Int)} {G : List Nat} {E : TypeId} (h : Enm w B C gb gl bs L G E) (hb : Below w.heap.size w w') : Enm w' B C gb gl bs L G E :=
  h.chg (Chg.ofBelow hb) (h.box.keep (F' := []) (Chg.ofBelow hb) (by simp)) (fun g hg => .inl hg)
/-- A call of a closure, at a step of a region that draws its order. -/
theorem step_callX {P : Program} {ops : Array Oper} {o : Oper} {ac : Act} {w : World} {K : Act → World → Prop} {Q : Exit → Act → World → Prop} {X : Prop} (hgd : o.guard = none) (f : FuncId) (caps : Array Value) (x : Operand) (xs : Array Operand) (ts : Array TypeId)
    (ho : o.op = .call { callee := .value x, args := xs, argTypes := ts }) (hx : ac.eval x = .func (.func f) #[] caps) (hrun : ∀ args w, (callFunc f args).run P w = .ok (.enter f args) w) (vs : Array Value) (hv : xs.map ac.eval = vs) {Post : Ending → World → Prop}
    (h : Calls P f (vs ++ caps) w Post) (hK : ∀ e w', Post e w' → ∃ v, e = .returned v ∧ K (ac.put o.dst v) w') : if Region.wanted o (yielded ops ac.tmps) = true then Oper.wp P o ac w K Q else X := by
  have hw : Region.wanted o (yielded ops ac.tmps) = true := by simp [Region.wanted, hgd]
  rw [if_pos hw]
  unfold Oper.wp execOp
  simp only [ho, resolve, hx, Deferred.ofValue, Sem.run_bind, Sem.run_pure, Result.andThen_ok, invoke]
  rw [show xs.map (Act.eval ac) = vs from hv]
  simp only [Array.empty_append, hrun, Oper.upon_enter]
  refine h.mono fun e w' hp => ?_
  obtain ⟨v, rfl, hk⟩ := hK e w' hp
  exact hk
set_option maxHeartbeats 4000000 in
set_option maxRecDepth 100000 in
theorem packFrom_c (f : FuncId) (caps : Array Value) (P : List Int → Bool) (hcall : ∀ args w, (callFunc f args).run Try.prog w = .ok (.enter f args) w) (w0 : World) (M : Nat) (ab : Option Addr) (cb : Nat) (ps : List (List Int)) (hsl : SlII Any w0 ab ps) (hM : M ≤ 8)
    (hat : Hid (∀ k, k < ps.length → isBagS (nthR ps k) = true ∧ (nthR ps k).length = M))
    (hf : Hid (∀ w' a c rest, Below w0.heap.size w0 w' → SlI Any w' a rest → rest.length = M → Calls Try.prog f (#[.slice a rest.length c] ++ caps) w' (RetV w' (.bool (P rest))))) (hK : ps.length ≤ 8) (gb gl : Nat) (px pi po pc pf : Nat) (C : List (Nat × Value))
    (hC : C = [(px, .slice ab ps.length cb), (pi, .func (.func f) #[] caps), (po, .pointer (some ⟨gl, 0, none⟩)), (pc, .slice (some ⟨gb, 0, none⟩) ps.length ps.length), (pf, .func (.func 173) #[] #[.pointer (some ⟨px, 0, none⟩), .pointer (some ⟨pi, 0, none⟩), .pointer (some ⟨po, 0, none⟩), .pointer (some ⟨pc, 0, none⟩), .pointer (some ⟨pf, 0, none⟩)])]) :
    ∀ (r k : Nat) (bs : List Int) (L : List (List Int)) (G : List Nat) (w : World) (kv : Int) (ar : Option Addr) (cr : Nat) (rest : List Int), kv = k → ps.length = k + r → bs.length = ps.length → L.length ≤ 2000 → Below w0.heap.size w0 w → Enm w w0.heap.size C gb gl bs L G 23 → SlI (fun g => g ≠ gb ∧ g ≠ gl ∧ g ∉ G) w ar rest → rest.length = M → small rest →
    Calls Try.prog 173 #[.int .i64 kv, .slice ar rest.length cr, .pointer (some ⟨px, 0, none⟩), .pointer (some ⟨pi, 0, none⟩), .pointer (some ⟨po, 0, none⟩), .pointer (some ⟨pc, 0, none⟩), .pointer (some ⟨pf, 0, none⟩)] w (EnmPost w w0.heap.size C gb gl bs k (capA L ((packs P (ps.drop k) rest).map (bs.take k ++ ·))) G 23) := by
  have HC := Lib.hid hC
  clear hC
  intro r
  induction r with
  | zero =>
    intro k bs L G w kv ar cr rest hkv hKr hbs hL hw hE hrest hrl hrs
    subst hkv
    have c1 := (hE.caps _ _ (by rw [HC.out]; exact .head _)).1
    have c2 := (hE.caps _ _ (by rw [HC.out]; exact .tail _ (.head _))).1
    have ht : ((k : Int) == (ps.length : Int)) = true := by simp; omega
    have HIS := Lib.hid (hf.out w ar cr rest hw hrest.any hrl)
    have hdrop : ps.drop k = [] := List.drop_eq_nil_of_le (by omega)
    have HE := Lib.hid hE
    have HBS := Lib.hid hbs
    have HK := Lib.hid hKr
    rw [hdrop]
    clear hE hKr hbs hdrop hrest hrs hrl
    cases hP : P rest
    · rw [hP] at HIS
      have hone : capA L ((packs P [] rest).map (bs.take k ++ ·)) = L := by simp [packs, hP, capA_nil (show L.length ≤ 2001 by omega)]
      rw [hone]
      clear hone hP
      go_enter Try.func173, Try.ntmps173
      go_wp2_with fail
      refine HIS.out.mono ?_
      rintro e w1 ⟨rfl, hb1⟩
      have HR : Hid (EnmPost w w0.heap.size C gb gl bs k L G 23 (.returned (.bool true)) w1) := Lib.hid
        ⟨ret_bool (by simpa using hL), bs, G, HE.out.next hb1, rfl, rfl, Chg.ofBelow hb1, fun g hg => .inl hg⟩
      clear hb1
      go_wp2
      go_ret
      exact HR.out
    · rw [hP] at HIS
      have hone : capA L ((packs P [] rest).map (bs.take k ++ ·)) = L ++ [bs] := by
        have e : bs.take k = bs := List.take_of_length_le (by have := HBS.out; have := HK.out; omega)
        simp [packs, hP, capA_one hL, e]
      rw [hone]
      clear hone hP
      go_enter Try.func173, Try.ntmps173
      go_wp2_with fail
      refine HIS.out.mono ?_
      rintro e w1 ⟨rfl, hb1⟩
      have hE1 := HE.out.next hb1
      have d3 := (hE1.caps _ _ (by rw [HC.out]; exact .tail _ (.tail _ (.head _)))).1
      have d4 := (hE1.caps _ _ (by rw [HC.out]; exact .tail _ (.tail _ (.tail _ (.head _))))).1
      have hA := add_c w0.heap.size gl ⟨gb, 0, none⟩ ps.length bs L.length (L.map dI) G w1 hE1.box (hE1.slI (by unfold maxLen; have := HBS.out; omega)) (by have := HBS.out; omega) hL hE1.base.2.2
      rw [HBS.out] at hA
      have HA := Lib.hid hA
      have HE1 := Lib.hid hE1
      have HB1 := Lib.hid hb1
      clear hA hE1 hb1
      go_wp2_with fail
      refine HA.out.mono ?_
      rintro e w2 ⟨rfl, G1, hb2, hc2, hm2⟩
      have HP : Hid (EnmPost w w0.heap.size C gb gl bs k (L ++ [bs]) G 23 (.returned (.bool (decide ((L.length : Int) + 1 ≤ 2000)))) w2) := Lib.hid (by
        refine ⟨ret_bool (by simp; omega), bs, G1, HE1.out.chg (L' := L ++ [bs]) hc2 (by simpa using hb2) hm2, rfl, rfl, (Chg.ofBelow HB1.out).comp hc2 (fun g hg => ?_), fun g hg => ?_⟩
        · exact .inl (List.mem_cons_of_mem _ hg)
        · rcases hm2 g hg with h | h
          · exact .inl h
          · have := HB1.out.size; exact .inr (by omega))
      clear hb2 hc2 hm2
      go_wp2
      go_ret
      exact HP.out
  | succ r ih =>
    intro k bs L G w kv ar cr rest hkv hKr hbs hL hw hE hrest hrl hrs
    subst hkv
    have IH := Lib.hid ih
    have c1 := (hE.caps _ _ (by rw [HC.out]; exact .head _)).1
    have i0 := hsl.ix tabII.under tabII.size cb
    have i1 := ix_of (P := Try.prog) tabI.under tabI.size (a := some ⟨gb, 0, none⟩) (n := ps.length) (fun _ => ⟨gb, 0, rfl⟩) ps.length
    simp only [Nat.mul_one, adr, blk, ofs, Nat.zero_add] at i1
    have ht : ((k : Int) == (ps.length : Int)) = false := by simp; omega
    have hkb0 : k < ps.length := by omega
    have hat0 := hat.out k hkb0
    have hlen : (nthR ps k).length = rest.length := by omega
    have htb := timesS_bd hlen hrs
    obtain ⟨l, hl⟩ : ∃ l : Nat, timesS (nthR ps k) rest = l := ⟨(timesS (nthR ps k) rest).toNat, by omega⟩
    have hl1 : l ≤ 1000 := by omega
    have hk2 : (k : Int) < ps.length := by omega
    obtain ⟨ap, cp, g00, hs0⟩ := hsl.cell k hkb0
    have HP0 := Lib.hid (And.intro g00 hs0)
    have HAT := Lib.hid hat0
    have HLEN := Lib.hid hlen
    have HRS := Lib.hid hrs
    have HL0 := Lib.hid hl
    have HW := Lib.hid hw
    have HK := Lib.hid hKr
    have HBS := Lib.hid hbs
    have HE := Lib.hid hE
    have HREST := Lib.hid hrest
    have HRL := Lib.hid hrl
    have hr8 : rest.length ≤ 8 := by omega
    have HSZ := Lib.hid (show w.heap.size = w.heap.size from rfl)
    have hrunP := callFunc_run Try.func85 (by kernel_rfl) rfl
    have hrunF := callFunc_run Try.func173 (by kernel_rfl) rfl
    clear hbs hKr hE ih hl hw hsl hrest htb hat0 hlen g00 hs0 hrs hrl
    go_enter Try.func173, Try.ntmps173
    go_wp2
    go_loopw [10] (fun i0 wr => ∃ (j : Nat) (bs' : List Int) (L' : List (List Int)) (G' : List Nat), j ≤ l + 1 ∧ i0 = .int .i64 j ∧ Hid (L' = capA L (packsTo P (ps.drop (k + 1)) (nthR ps k) rest (bs.take k) j)) ∧ L'.length ≤ 2000 ∧ Enm wr w0.heap.size C gb gl bs' L' G' 23 ∧ Hid (bs'.length = bs.length ∧ bs'.take k = bs.take k) ∧ Chg (gb :: gl :: G) w wr ∧ (∀ g, g ∈ G' → g ∈ G ∨ w.heap.size ≤ g)) (fun i0 _ => l + 1 - (intOf i0).toNat)
    case atStart => exact ⟨0, bs, L, G, by omega, rfl, Lib.hid (by simp [packsTo, capA_nil (show L.length ≤ 2001 by omega)]), hL, HE.out, Lib.hid ⟨rfl, rfl⟩, Chg.refl _ _, fun g hg => .inl hg⟩
    case round =>
      obtain ⟨j, bs', L', G', hj, rfl, hL', hn', hE', hb', hc', hm'⟩ := hrel
      have hwr : Below w0.heap.size w0 wr := HW.out.trans (hc'.below HE.out.base.2.2 (fun g hg => by
        simp at hg
        rcases hg with rfl | rfl | hg
        · exact HE.out.base.1
        · exact HE.out.base.2.1
        · exact (HE.out.box.lt.2 g hg).1))
      have hrw := HREST.out.keep hc' (fun g hg => by simp; exact hg)
      have HCH := Lib.hid hc'
      have HM := Lib.hid hm'
      have c0 := (hE'.caps _ _ (by rw [HC.out]; exact .head _)).1
      have g0 := (hwr.cell (World.block_lt_of_cell? w0 _ HP0.out.1)).trans HP0.out.1
      have htm := timesIn_c Any ap ar cp cr _ _ wr (HP0.out.2.below hwr) hrw.any (Nat.le_of_eq HLEN.out) (fun j hj => isBagS_small HAT.out.1 j hj) (fun j hj => HRS.out j (by have := HLEN.out; omega))
      rw [HL0.out] at htm
      have HT := Lib.hid htm
      have HWR := Lib.hid hwr
      have HRW := Lib.hid hrw
      clear hc' hm' c1 ht hwr hrw htm
      by_cases hlt : j ≤ l
      · have hkb : k < bs'.length := by have := hb'.out.1; have := HBS.out; omega
        have c4 := (hE'.caps _ _ (by rw [HC.out]; exact .tail _ (.tail _ (.tail _ (.head _))))).1
        have g1 := hE'.cells k hkb
        have g2 := hE'.free k
        have hset := hE'.set hkb j
        have d1 := (hset.caps _ _ (by rw [HC.out]; exact .head _)).1
        have d5 := (hset.caps _ _ (by rw [HC.out]; exact .tail _ (.tail _ (.tail _ (.tail _ (.head _)))))).1
        have hws : Below w0.heap.size w0 (wr.setCell ⟨gb, k, none⟩ (.int .i64 j)) := HWR.out.setCell hE'.base.1 _
        have hchs := chg_set wr ⟨gb, k, none⟩ (.int .i64 j) (gb :: gl :: G') (by simp)
        have hcS := HCH.out.comp hchs (fun g hg => by
          simp at hg ⊢
          rcases hg with h | h | h
          · exact .inl (.inl h)
          · exact .inl (.inr (.inl h))
          · rcases HM.out g h with h | h
            · exact .inl (.inr (.inr h))
            · exact .inr h)
        have hrS := HREST.out.keep hcS (fun g hg => by simp; exact hg)
        have gS := (hws.cell (World.block_lt_of_cell? w0 _ HP0.out.1)).trans HP0.out.1
        have n1 := (hset.caps _ _ (by rw [HC.out]; exact .head _)).2.1
        have n5 := (hset.caps _ _ (by rw [HC.out]; exact .tail _ (.tail _ (.tail _ (.tail _ (.head _)))))).2.1
        have HPL : Hid (∀ wx, Below (wr.setCell ⟨gb, k, none⟩ (.int .i64 j)).heap.size (wr.setCell ⟨gb, k, none⟩ (.int .i64 j)) wx → Calls Try.prog 85 #[.slice ar rest.length cr, .slice ap (nthR ps k).length cp, .int .i64 (-(j : Int))] wx (RetD wx (dI (plusS rest (nthR ps k) (-(j : Int)))))) :=
          Lib.hid (fun wx hb => plus_c Any ar ap cr cp _ _ _ wx (hrS.any.below hb) ((HP0.out.2.below hws).below hb) (by have := HLEN.out; omega) (by omega))
        obtain ⟨L2, hL2⟩ : ∃ L2, L2 = capA L (packsTo P (ps.drop (k + 1)) (nthR ps k) rest (bs.take k) (j + 1)) := ⟨_, rfl⟩
        have hL2' : capA L' ((packs P (ps.drop (k + 1)) (plusS rest (nthR ps k) (-(j : Int)))).map (bs.take k ++ [(j : Int)] ++ ·)) = L2 := by
          rw [hL2, hL'.out, capA_capA, packsTo_succ]; simp
        have HSM : Hid (small (plusS rest (nthR ps k) (-(j : Int)))) := Lib.hid (take_small HLEN.out HRS.out (isBagS_small HAT.out.1) (by omega) (by have := HL0.out; omega))
        have HIH : Hid (∀ (w2 : World) (v2 : Value) (F2 : List Nat), Below (wr.setCell ⟨gb, k, none⟩ (.int .i64 j)).heap.size (wr.setCell ⟨gb, k, none⟩ (.int .i64 j)) w2 → Ow w2 (dI (plusS rest (nthR ps k) (-(j : Int)))) v2 F2 → (∀ g, g ∈ F2 → (wr.setCell ⟨gb, k, none⟩ (.int .i64 j)).heap.size ≤ g) →
            Calls Try.prog 173 #[.int .i64 ((k : Int) + 1), v2, .pointer (some ⟨px, 0, none⟩), .pointer (some ⟨pi, 0, none⟩), .pointer (some ⟨po, 0, none⟩), .pointer (some ⟨pc, 0, none⟩), .pointer (some ⟨pf, 0, none⟩)] w2 (fun e w1 => e = .returned (.bool (decide (L2.length ≤ 2000))) ∧ ∃ bs2 G2, Enm w1 w0.heap.size C gb gl bs2 L2 G2 23 ∧ (bs2.length = bs.length ∧ bs2.take k = bs.take k) ∧ Chg (gb :: gl :: G) w w1 ∧ ∀ g, g ∈ G2 → g ∈ G ∨ w.heap.size ≤ g)) := Lib.hid (by
          intro w2 v2 F2 hb2 ho2 hF2
          have hE2 := hset.next hb2
          obtain ⟨a2, c2, rfl, hs2⟩ := ho2.slI
          have hbox := hset.box.lt
          have hgl := hset.lt
          have hcall := IH.out (k + 1) (bs'.set k j) L' G' w2 ((k : Int) + 1) a2 c2 (plusS rest (nthR ps k) (-(j : Int))) (by omega) (by have := HK.out; omega) (by have := hb'.out.1; have := HBS.out; simp; omega) hn' (bnext hws hb2 (Nat.le_refl _)) hE2
            (hs2.wider (fun g _ hg => by have := hF2 g hg; exact ⟨by omega, by have := hbox.1; omega, fun hG => by have := (hbox.2 g hG).2; omega⟩)) (by rw [plusS_len]; exact HRL.out) HSM.out
          rw [take_set_succ hkb, hb'.out.2, hL2'] at hcall
          refine hcall.mono ?_
          rintro e w1 ⟨he, bs2, G2, hE3, hbl, hbt, hc3, hm3⟩
          refine ⟨he, bs2, G2, hE3, ⟨by have := hb'.out.1; simp at hbl; omega, ?_⟩, ?_, fun g hg => ?_⟩
          · have := congrArg (List.take k) (hbt.trans (by rw [take_set_succ hkb, hb'.out.2]))
            rw [List.take_take, Nat.min_eq_left (by omega)] at this
            rw [this, List.take_append_of_le_length (by have := hb'.out.1; simp; omega), List.take_take, Nat.min_self]
          · refine hcS.comp ((Chg.ofBelow (F := gb :: gl :: G') hb2).trans hc3) (fun g hg => ?_)
            simp at hg ⊢
            rcases hg with h | h | h
            · exact .inl (.inl h)
            · exact .inl (.inr (.inl h))
            · rcases HM.out g h with h | h
              · exact .inl (.inr (.inr h))
              · exact .inr h
          · rcases hm3 g hg with hh | hh
            · exact HM.out g hh
            · have h1 := hcS.size
              have h2 := hb2.size
              exact .inr (by omega))
        have HL2 := Lib.hid hL2
        have hpf : pf < (wr.setCell ⟨gb, k, none⟩ (.int .i64 j)).heap.size := World.block_lt_of_cell? _ _ d5
        have HE' := Lib.hid hE'
        clear hws hset hchs hcS hrS hL2' hL2 hE'
        have hwj : IntKind.i64.wrap (-(j : Int)) = -(j : Int) := by rw [IntKind.wrap_i64]; omega
        have hwk : IntKind.i64.wrap ((k : Int) + 1) = (k : Int) + 1 := by rw [IntKind.wrap_i64]; omega
        go_wp2_with fail
        refine HT.out.mono ?_
        rintro e w1 ⟨rfl, rfl⟩
        go_wp2
        by_cases hq : L2.length ≤ 2000
        · go_region_law (first
            | (refine step_callD rfl 85 #[.tmp 41, .tmp 45, .tmp 47] _ rfl hrunP #[.slice ar rest.length cr, .slice ap (nthR ps k).length cp, .int .i64 (-(j : Int))] (by first | rfl | (simp [Act.eval]; done) | (simp [Act.eval]; rfl)) (dI (plusS rest (nthR ps k) (-(j : Int)))) (HPL.out _ (Below.refl _ _).drew) ?_; intro v1 F1 w1 hb1 ho1 hn1 hl1; obtain ⟨a1, c1, rfl⟩ := ho1.val; have f1 := (bcell1 (i := 0) hb1 hpf).trans d5)
            | (refine step_callX rfl 173 _ (.tmp 38) #[.tmp 40, .tmp 48] _ rfl rfl hrunF #[.int .i64 ((k : Int) + 1), .slice a1 (plusS rest (nthR ps k) (-(j : Int))).length c1] (by first | rfl | (simp [Act.eval]; done) | (simp [Act.eval]; rfl)) (HIH.out _ _ F1 ((Below.refl _ _).drew.trans hb1) ho1 hl1) ?_; rintro e w3 ⟨he, bs2, G2, hE3, hbb, hc3, hm3⟩; rw [decide_eq_true hq] at he; subst he; refine ⟨_, rfl, ?_⟩))
          all_goals
            have HE3 := Lib.hid hE3
            have HB3 := Lib.hid hbb
            have HC3 := Lib.hid hc3
            have HM3 := Lib.hid hm3
            clear hE3 hbb hc3 hm3 hb1 ho1 hn1 hl1 f1 d1 d5 g1 g2 gS c4
            go_wp2
            go_roundw
            case rel => exact ⟨j + 1, bs2, L2, G2, by omega, by go_num, HL2, hq, HE3.out, HB3, HC3.out, HM3.out⟩
            case measure => simp [intOf]; omega
        · go_region_law (first
            | (refine step_callD rfl 85 #[.tmp 41, .tmp 45, .tmp 47] _ rfl hrunP #[.slice ar rest.length cr, .slice ap (nthR ps k).length cp, .int .i64 (-(j : Int))] (by first | rfl | (simp [Act.eval]; done) | (simp [Act.eval]; rfl)) (dI (plusS rest (nthR ps k) (-(j : Int)))) (HPL.out _ (Below.refl _ _).drew) ?_; intro v1 F1 w1 hb1 ho1 hn1 hl1; obtain ⟨a1, c1, rfl⟩ := ho1.val; have f1 := (bcell1 (i := 0) hb1 hpf).trans d5)
            | (refine step_callX rfl 173 _ (.tmp 38) #[.tmp 40, .tmp 48] _ rfl rfl hrunF #[.int .i64 ((k : Int) + 1), .slice a1 (plusS rest (nthR ps k) (-(j : Int))).length c1] (by first | rfl | (simp [Act.eval]; done) | (simp [Act.eval]; rfl)) (HIH.out _ _ F1 ((Below.refl _ _).drew.trans hb1) ho1 hl1) ?_; rintro e w3 ⟨he, bs2, G2, hE3, hbb, hc3, hm3⟩; rw [decide_eq_false hq] at he; subst he; refine ⟨_, rfl, ?_⟩))
          all_goals
            have hfull : capA L ((packs P (ps.drop k) rest).map (bs.take k ++ ·)) = L2 := by
              obtain ⟨tl, hr⟩ := packsTo_split P (ps.drop (k + 1)) (nthR ps k) rest (bs.take k) (show j + 1 ≤ l + 1 by omega)
              rw [show ps.drop k = nthR ps k :: ps.drop (k + 1) from by rw [nthR_lt hkb0, List.drop_eq_getElem_cons hkb0], ← packsTo_full, HL0.out, Int.toNat_natCast, hr, capA_full tl (by rw [← HL2.out]; exact hq), ← HL2.out]
            have HR : Hid (EnmPost w w0.heap.size C gb gl bs k (capA L ((packs P (ps.drop k) rest).map (bs.take k ++ ·))) G 23 (.returned (.bool false)) w3) := Lib.hid (by
              rw [hfull]
              exact ⟨ret_bool (by simpa using hq), bs2, G2, hE3, hbb.1, hbb.2, hc3, hm3⟩)
            clear hE3 hbb hc3 hm3 hb1 ho1 hn1 hl1 f1 hfull d1 d5 g1 g2 gS c4
            go_wp2
            go_ret
            exact HR.out
      · go_wp2_with fail
        refine HT.out.mono ?_
        rintro e w1 ⟨rfl, rfl⟩
        have HE' := Lib.hid hE'
        clear hE' g0 c0
        go_wp2
        go_ret
        have e : j = l + 1 := by omega
        have hfull : capA L ((packs P (ps.drop k) rest).map (bs.take k ++ ·)) = L' := by rw [show ps.drop k = nthR ps k :: ps.drop (k + 1) from by rw [nthR_lt hkb0, List.drop_eq_getElem_cons hkb0], ← packsTo_full, HL0.out, Int.toNat_natCast, ← e, ← hL'.out]
        rw [hfull]
        exact ⟨ret_bool (by simpa using hn'), bs', G', HE'.out, hb'.out.1, hb'.out.2, HCH.out, HM.out⟩
set_option maxHeartbeats 4000000 in
theorem packings_c (f : FuncId) (caps : Array Value) (P : List Int → Bool) (hcall : ∀ args w, (callFunc f args).run Try.prog w = .ok (.enter f args) w) (a b : Option Addr) (c c' : Nat) (xs : List Int) (ps : List (List Int)) (w : World) (hx : SlI Any w a xs) (hy : SlII Any w b ps) (hlp : ps.length ≤ 16777216)
    (hf : Hid (∀ w' a c rest, Below w.heap.size w w' → SlI Any w' a rest → rest.length = xs.length → asked xs ps = 0 → Calls Try.prog f (#[.slice a rest.length c] ++ caps) w' (RetV w' (.bool (P rest))))) :
    Calls Try.prog 118 #[.slice a xs.length c, .slice b ps.length c', .func (.func f) #[] caps] w (RetLists w (packingsS (fun _ => P) xs ps)) := by
  have hb0 : Below w.heap.size w ((w.alloc (.cells #[.slice b ps.length c'] 22)).alloc (.cells #[.func (.func f) #[] caps] 127)) := ((Below.refl _ _).alloc (Nat.le_refl _) _).alloc (by simp) _
  have HC := Lib.hid (bagAndParts_c Any Any a b c c' xs ps _ (hx.below hb0) (hy.below hb0) hlp)
  have HB0 := Lib.hid hb0
  have HX := Lib.hid hx
  have HY := Lib.hid hy
  clear hb0 hx hy
  by_cases hcode : asked xs ps = 0
  · obtain ⟨hA, hask⟩ := asked_ok hcode
    have hb8 := isBagS_len hA
    have hp8 := (askS_ok hask).2.1
    have HAT : Hid (∀ k, k < ps.length → isBagS (nthR ps k) = true ∧ (nthR ps k).length = xs.length) := Lib.hid (fun k hk => by have := askS_at hask hk; exact ⟨this.1, by omega⟩)
    have HSM := Lib.hid (isBagS_small hA)
    have HCD := Lib.hid hcode
    rw [hcode] at HC
    clear hA hask
    by_cases hq : 16 < sumS xs
    · have ev : packingsS (fun _ => P) xs ps = ([], 3) := by rw [packingsS, if_pos hcode, if_pos hq]
      rw [ev]
      clear ev hcode
      go_enter Try.func118, Try.ntmps118
      go_wp2_with fail
      refine HC.out.mono ?_
      rintro e w1 ⟨rfl, hb1⟩
      have HB1 := Lib.hid (HB0.out.trans (hb1.mono (by simp <;> omega)))
      have HSZ := Lib.hid (bagSize_c Any a c xs w1 (HX.out.below HB1.out))
      clear hb1
      go_wp2_with fail
      refine HSZ.out.mono ?_
      rintro e w2 ⟨rfl, rfl⟩
      go_wp2
      go_ret2
      exact RetDC.none _ _ _ HB1.out
    · have ev : packingsS (fun _ => P) xs ps = lim (packs P ps xs) := by rw [packingsS, if_pos hcode, if_neg hq]
      rw [ev]
      have hmk := make_run1 (P := Try.prog) tabI rfl (by decide) ps.length (by omega)
      clear ev hcode
      go_enter Try.func118, Try.ntmps118
      go_wp2_with fail
      refine HC.out.mono ?_
      rintro e w1 ⟨rfl, hb1⟩
      have q0 : w1.cell? ⟨w.heap.size, 0, none⟩ = some (.slice b ps.length c') := by rw [bcell1 hb1 (by simp <;> omega)]; simp [go_sem]
      have q1 : w1.cell? ⟨w.heap.size + 1, 0, none⟩ = some (.func (.func f) #[] caps) := by rw [bcell1 hb1 (by simp)]; simp [go_sem]
      have hz1 : w.heap.size + 2 ≤ w1.heap.size := by have := hb1.size; simp at this; omega
      have HB1 := Lib.hid (HB0.out.trans (hb1.mono (by simp <;> omega)))
      have HSZ := Lib.hid (bagSize_c Any a c xs w1 (HX.out.below HB1.out))
      have y1 := fun o1 => (bcell1 (i := 0) (b := w.heap.size) (below_alloc w1 o1) (by omega)).trans q0
      have y2 := fun o1 o2 => (bcell1 (i := 0) (b := w.heap.size) ((below_alloc w1 o1).alloc (by simp) o2) (by omega)).trans q0
      have y3 := fun o1 o2 o3 => (bcell1 (i := 0) (b := w.heap.size) (((below_alloc w1 o1).alloc (by simp) o2).alloc (by simp <;> omega) o3) (by omega)).trans q0
      have y4 := fun o1 o2 o3 o4 => (bcell1 (i := 0) (b := w.heap.size) ((((below_alloc w1 o1).alloc (by simp) o2).alloc (by simp <;> omega) o3).alloc (by simp <;> omega) o4) (by omega)).trans q0
      clear hb1
      go_upto_region 6 with (go_at_call 97; refine HSZ.out.mono ?_; rintro e w2 ⟨rfl, rfl⟩)
      go_cut [9, 10] (fun s6 s7 wx => Init w1 ps.length s6 s7 wx)
      case first =>
        go_region
        all_goals
          go_wp2_with fail
          go_meet
        all_goals first
          | (refine ⟨_, _, w1.heap.size, w1.heap.size + 1, rfl, rfl, ?_, ?_, ?_, ?_, ?_, ?_, ?_, ?_, ?_⟩ <;> (first | (simp [go_sem]; done) | omega | (simp; omega) | (intro i hi; simp [go_sem, hi]; done) | (intro i; simp [go_sem]; done) | ((repeat (first | exact Below.refl _ _ | refine Below.drew ?_ | refine Below.alloc ?_ (by simp <;> omega) _)); done)))
          | (refine ⟨_, _, w1.heap.size, w1.heap.size + 1 + 1, rfl, rfl, ?_, ?_, ?_, ?_, ?_, ?_, ?_, ?_, ?_⟩ <;> (first | (simp [go_sem]; done) | omega | (simp; omega) | (intro i hi; simp [go_sem, hi]; done) | (intro i; simp [go_sem]; done) | ((repeat (first | exact Below.refl _ _ | refine Below.drew ?_ | refine Below.alloc ?_ (by simp <;> omega) _)); done)))
          | (refine ⟨_, _, w1.heap.size, w1.heap.size + 1 + 1 + 1, rfl, rfl, ?_, ?_, ?_, ?_, ?_, ?_, ?_, ?_, ?_⟩ <;> (first | (simp [go_sem]; done) | omega | (simp; omega) | (intro i hi; simp [go_sem, hi]; done) | (intro i; simp [go_sem]; done) | ((repeat (first | exact Below.refl _ _ | refine Below.drew ?_ | refine Below.alloc ?_ (by simp <;> omega) _)); done)))
          | (refine ⟨_, _, w1.heap.size + 1, w1.heap.size, rfl, rfl, ?_, ?_, ?_, ?_, ?_, ?_, ?_, ?_, ?_⟩ <;> (first | (simp [go_sem]; done) | omega | (simp; omega) | (intro i hi; simp [go_sem, hi]; done) | (intro i; simp [go_sem]; done) | ((repeat (first | exact Below.refl _ _ | refine Below.drew ?_ | refine Below.alloc ?_ (by simp <;> omega) _)); done)))
          | (refine ⟨_, _, w1.heap.size + 1, w1.heap.size + 1 + 1, rfl, rfl, ?_, ?_, ?_, ?_, ?_, ?_, ?_, ?_, ?_⟩ <;> (first | (simp [go_sem]; done) | omega | (simp; omega) | (intro i hi; simp [go_sem, hi]; done) | (intro i; simp [go_sem]; done) | ((repeat (first | exact Below.refl _ _ | refine Below.drew ?_ | refine Below.alloc ?_ (by simp <;> omega) _)); done)))
          | (refine ⟨_, _, w1.heap.size + 1, w1.heap.size + 1 + 1 + 1, rfl, rfl, ?_, ?_, ?_, ?_, ?_, ?_, ?_, ?_, ?_⟩ <;> (first | (simp [go_sem]; done) | omega | (simp; omega) | (intro i hi; simp [go_sem, hi]; done) | (intro i; simp [go_sem]; done) | ((repeat (first | exact Below.refl _ _ | refine Below.drew ?_ | refine Below.alloc ?_ (by simp <;> omega) _)); done)))
          | (refine ⟨_, _, w1.heap.size + 1 + 1, w1.heap.size, rfl, rfl, ?_, ?_, ?_, ?_, ?_, ?_, ?_, ?_, ?_⟩ <;> (first | (simp [go_sem]; done) | omega | (simp; omega) | (intro i hi; simp [go_sem, hi]; done) | (intro i; simp [go_sem]; done) | ((repeat (first | exact Below.refl _ _ | refine Below.drew ?_ | refine Below.alloc ?_ (by simp <;> omega) _)); done)))
          | (refine ⟨_, _, w1.heap.size + 1 + 1, w1.heap.size + 1, rfl, rfl, ?_, ?_, ?_, ?_, ?_, ?_, ?_, ?_, ?_⟩ <;> (first | (simp [go_sem]; done) | omega | (simp; omega) | (intro i hi; simp [go_sem, hi]; done) | (intro i; simp [go_sem]; done) | ((repeat (first | exact Below.refl _ _ | refine Below.drew ?_ | refine Below.alloc ?_ (by simp <;> omega) _)); done)))
          | (refine ⟨_, _, w1.heap.size + 1 + 1, w1.heap.size + 1 + 1 + 1, rfl, rfl, ?_, ?_, ?_, ?_, ?_, ?_, ?_, ?_, ?_⟩ <;> (first | (simp [go_sem]; done) | omega | (simp; omega) | (intro i hi; simp [go_sem, hi]; done) | (intro i; simp [go_sem]; done) | ((repeat (first | exact Below.refl _ _ | refine Below.drew ?_ | refine Below.alloc ?_ (by simp <;> omega) _)); done)))
          | (refine ⟨_, _, w1.heap.size + 1 + 1 + 1, w1.heap.size, rfl, rfl, ?_, ?_, ?_, ?_, ?_, ?_, ?_, ?_, ?_⟩ <;> (first | (simp [go_sem]; done) | omega | (simp; omega) | (intro i hi; simp [go_sem, hi]; done) | (intro i; simp [go_sem]; done) | ((repeat (first | exact Below.refl _ _ | refine Below.drew ?_ | refine Below.alloc ?_ (by simp <;> omega) _)); done)))
          | (refine ⟨_, _, w1.heap.size + 1 + 1 + 1, w1.heap.size + 1, rfl, rfl, ?_, ?_, ?_, ?_, ?_, ?_, ?_, ?_, ?_⟩ <;> (first | (simp [go_sem]; done) | omega | (simp; omega) | (intro i hi; simp [go_sem, hi]; done) | (intro i; simp [go_sem]; done) | ((repeat (first | exact Below.refl _ _ | refine Below.drew ?_ | refine Below.alloc ?_ (by simp <;> omega) _)); done)))
          | (refine ⟨_, _, w1.heap.size + 1 + 1 + 1, w1.heap.size + 1 + 1, rfl, rfl, ?_, ?_, ?_, ?_, ?_, ?_, ?_, ?_, ?_⟩ <;> (first | (simp [go_sem]; done) | omega | (simp; omega) | (intro i hi; simp [go_sem, hi]; done) | (intro i; simp [go_sem]; done) | ((repeat (first | exact Below.refl _ _ | refine Below.drew ?_ | refine Below.alloc ?_ (by simp <;> omega) _)); done)))
      case rest =>
        obtain ⟨po, pc, gl, gb, rfl, rfl, h1, h2, h3, h4, h5, h6, ⟨o1, o2, o3, o4⟩, ⟨k1, k2, k3, k4, k5, k6, k7⟩, hb⟩ := hcut
        have z1 := World.block_lt_of_cell? wc _ h1
        have z2 := World.block_lt_of_cell? wc _ h2
        have z3 := World.block_lt_of_cell? wc _ h3
        simp only at z1 z2 z3
        have hszc := hb.size
        have r0 : wc.cell? ⟨w.heap.size, 0, none⟩ = some (.slice b ps.length c') := by rw [bcell1 hb (by omega)]; exact q0
        have r1 : wc.cell? ⟨w.heap.size + 1, 0, none⟩ = some (.func (.func f) #[] caps) := by rw [bcell1 hb (by omega)]; exact q1
        have hbw : Below w.heap.size w wc := bnext HB1.out hb (Nat.le_refl _)
        have hA := below_alloc wc (.cells #[.func (.func 173) #[] #[.pointer (some ⟨w.heap.size, 0, none⟩), .pointer (some ⟨w.heap.size + 1, 0, none⟩), .pointer (some ⟨po, 0, none⟩), .pointer (some ⟨pc, 0, none⟩), .pointer (some ⟨wc.heap.size, 0, none⟩)]] 106)
        have hE : Enm (wc.alloc (.cells #[.func (.func 173) #[] #[.pointer (some ⟨w.heap.size, 0, none⟩), .pointer (some ⟨w.heap.size + 1, 0, none⟩), .pointer (some ⟨po, 0, none⟩), .pointer (some ⟨pc, 0, none⟩), .pointer (some ⟨wc.heap.size, 0, none⟩)]] 106)) w.heap.size
            [(w.heap.size, .slice b ps.length c'), (w.heap.size + 1, .func (.func f) #[] caps), (po, .pointer (some ⟨gl, 0, none⟩)), (pc, .slice (some ⟨gb, 0, none⟩) ps.length ps.length), (wc.heap.size, .func (.func 173) #[] #[.pointer (some ⟨w.heap.size, 0, none⟩), .pointer (some ⟨w.heap.size + 1, 0, none⟩), .pointer (some ⟨po, 0, none⟩), .pointer (some ⟨pc, 0, none⟩), .pointer (some ⟨wc.heap.size, 0, none⟩)])]
            gb gl (List.replicate ps.length 0) [] [] 23 := by
          refine Init.enm (by rw [bcell1 hA z3]; exact h3) (by rw [hA.frozen (p := ⟨gl, 0, none⟩) z3]; exact h4) (fun i hi => by rw [bcell1 hA k1]; exact h5 i hi) (fun i => by rw [hA.frozen (p := ⟨gb, i, none⟩) k1]; exact h6 i) (by simp; omega) k7 ⟨by omega, by omega, by simp; omega⟩ ?_
          intro p v hp
          simp only [List.mem_cons, Prod.mk.injEq, List.not_mem_nil, or_false] at hp
          rcases hp with ⟨rfl, rfl⟩ | ⟨rfl, rfl⟩ | ⟨rfl, rfl⟩ | ⟨rfl, rfl⟩ | ⟨rfl, rfl⟩
          · exact ⟨by rw [bcell1 hA (by omega)]; exact r0, by omega, by omega⟩
          · exact ⟨by rw [bcell1 hA (by omega)]; exact r1, by omega, by omega⟩
          · exact ⟨by rw [bcell1 hA z1]; exact h1, by omega, by omega⟩
          · exact ⟨by rw [bcell1 hA z2]; exact h2, by omega, by omega⟩
          · exact ⟨by simp [go_sem], by omega, by omega⟩
        have hwa : Below w.heap.size w (wc.alloc (.cells #[.func (.func 173) #[] #[.pointer (some ⟨w.heap.size, 0, none⟩), .pointer (some ⟨w.heap.size + 1, 0, none⟩), .pointer (some ⟨po, 0, none⟩), .pointer (some ⟨pc, 0, none⟩), .pointer (some ⟨wc.heap.size, 0, none⟩)]] 106)) := hbw.alloc hbw.size _
        have hsx : SlI (fun g => g ≠ gb ∧ g ≠ gl ∧ g ∉ ([] : List Nat)) (wc.alloc (.cells #[.func (.func 173) #[] #[.pointer (some ⟨w.heap.size, 0, none⟩), .pointer (some ⟨w.heap.size + 1, 0, none⟩), .pointer (some ⟨po, 0, none⟩), .pointer (some ⟨pc, 0, none⟩), .pointer (some ⟨wc.heap.size, 0, none⟩)]] 106)) a xs := by
          have h1 : SlI (fun g => g < w.heap.size) w a xs := HX.out.wider (fun g hg _ => hg)
          exact (h1.below hwa).wider (fun g _ hg => ⟨by omega, by omega, by simp⟩)
        have hcall := packFrom_c f caps P hcall w xs.length b c' ps HY.out (by omega) HAT (Lib.hid fun w' a c rest h1 h2 h3 => hf.out w' a c rest h1 h2 h3 HCD.out) hp8 gb gl w.heap.size (w.heap.size + 1) po pc wc.heap.size _ rfl ps.length 0 (List.replicate ps.length 0) [] [] _ 0 a c xs rfl (by omega) (by simp) (by simp) hwa hE hsx rfl HSM.out
        have HCL := Lib.hid hcall
        have HB := Lib.hid hbw
        have HE := Lib.hid hE
        clear hE hcall hbw hb h1 h2 h3 h4 h5 h6 hsx hwa hA q0 q1 y1 y2 y3 y4
        go_wp2_with fail
        refine HCL.out.mono ?_
        rintro e w2 ⟨he, bs', G', hE', -, -, hc', hm'⟩
        have hlen : (capA [] ((packs P (ps.drop 0) xs).map ((List.replicate ps.length (0 : Int)).take 0 ++ ·))) = (packs P ps xs).take 2001 := by simp [capA]
        rw [hlen] at he hE'
        subst he
        have o5 := (hE'.caps po _ (.tail _ (.tail _ (.head _)))).1
        have hb1 : Below w.heap.size w w2 := (HB.out.alloc (by have := HB.out.size; omega) _).trans (hc'.below (by have := HB.out.size; simp; omega) (fun g hg => by simp at hg; rcases hg with rfl | rfl <;> omega))
        have hres := result_c w.heap.size gl _ G' w w2 hE'.box hb1 (Nat.le_refl _) (by simp; omega)
        rw [lim_take] at hres
        have HR := Lib.hid hres
        clear hE' hc' hm' hb1 hres hlen
        go_wp2_with fail
        refine HR.out.mono ?_
        rintro e w3 ⟨v, F, rfl, h1, h2, h3, h4⟩
        have HXX := Lib.hid (show RetLists w (lim (packs P ps xs)) _ w3 from ⟨v, F, rfl, h1, h2, h3, h4⟩)
        clear h1 h2 h3 h4
        go_wp2
        go_ret2
        exact HXX.out
  · have hne : (asked xs ps != 0) = true := by simpa using hcode
    have ev : packingsS (fun _ => P) xs ps = ([], asked xs ps) := by rw [packingsS, if_neg hcode]
    rw [ev]
    clear ev hcode
    go_enter Try.func118, Try.ntmps118
    go_wp2_with fail
    refine HC.out.mono ?_
    rintro e w1 ⟨rfl, hb1⟩
    have HB1 := Lib.hid (HB0.out.trans (hb1.mono (by simp <;> omega)))
    clear hb1
    go_wp2
    go_ret2
    exact RetDC.none _ _ _ HB1.out
theorem maxPack1_c (a b : Option Addr) (c c' : Nat) (rest : List Int) (ps : List (List Int)) (p : Nat) (w : World) (hx : SlI Any w a rest) (hy : SlII Any w b ps) (hp : w.cell? ⟨p, 0, none⟩ = some (.slice b ps.length c')) (hl : Hid (∀ j, j < ps.length → (nthR ps j).length ≤ rest.length)) :
    Calls Try.prog 135 #[.slice a rest.length c, .pointer (some ⟨p, 0, none⟩)] w (RetV w (.bool (fullS rest ps))) := by
  go_enter Try.func135, Try.ntmps135
  go_wp2_with fail
  refine (isFull_c a b c c' rest ps w hx hy hl).mono ?_
  rintro e w' ⟨rfl, hb⟩
  have HB := Lib.hid hb
  clear hb
  go_wp2
  go_ret
  exact ⟨rfl, HB.out⟩
theorem exactPack1_c (a : Option Addr) (c : Nat) (rest : List Int) (w : World) (hx : SlI Any w a rest) :
    Calls Try.prog 119 #[.slice a rest.length c] w (RetV w (.bool (sumS rest == 0))) := by
  go_enter Try.func119, Try.ntmps119
  go_wp2_with fail
  refine (bagSize_c Any a c rest w hx).mono ?_
  rintro e w' ⟨rfl, rfl⟩
  go_wp2
  go_ret
  exact ⟨rfl, Below.refl _ _⟩
set_option maxHeartbeats 1000000 in
theorem implMaximalPackings_d (xs : List Int) (ps : List (List Int)) {v u : Value} (w : World) (h1 : Rd Any w (dI xs) v) (h2 : Rd Any w (dII ps) u) (hlp : ps.length ≤ 16777216) :
    Calls Try.prog 55 #[v, u] w (RetLists w (packingsS maxP xs ps)) := by
  obtain ⟨a, c, rfl, hx⟩ := Rd_I.1 h1
  obtain ⟨b, c', rfl, hy⟩ := Rd_II.1 h2
  clear h1 h2
  have hb := below_alloc w (.cells #[.slice b ps.length c'] 22)
  have HC := Lib.hid (packings_c 135 #[.pointer (some ⟨w.heap.size, 0, none⟩)] (maxP ps) (callFunc_run Try.func135 (by kernel_rfl) rfl) a b c c' xs ps _ (hx.below hb) (hy.below hb) hlp
    (Lib.hid fun w' a' d' rest h1 h2 h3 h4 => maxPack1_c a' b d' c' rest ps w.heap.size w' h2 ((hy.below hb).below h1) (by rw [bcell1 h1 (by simp)]; simp [go_sem]) (Lib.hid fun j hj => by have := (askS_at (asked_ok h4).2 hj).2.1; omega)))
  have HB := Lib.hid hb
  clear hb hx hy
  go_enter Try.func55, Try.ntmps55
  go_wp2_with fail
  refine HC.out.mono ?_
  rintro e w3 ⟨v, F, rfl, h1, h2, h3, h4⟩
  have HXX := Lib.hid (show RetLists w (packingsS maxP xs ps) _ w3 from RetDC.from HB.out ⟨v, F, rfl, h1, h2, h3, h4⟩)
  clear h1 h2 h3 h4
  go_wp2
  go_ret2
  exact HXX.out
set_option maxHeartbeats 1000000 in
theorem implExactPackings_d (xs : List Int) (ps : List (List Int)) {v u : Value} (w : World) (h1 : Rd Any w (dI xs) v) (h2 : Rd Any w (dII ps) u) (hlp : ps.length ≤ 16777216) :
    Calls Try.prog 43 #[v, u] w (RetLists w (packingsS exactP xs ps)) := by
  obtain ⟨a, c, rfl, hx⟩ := Rd_I.1 h1
  obtain ⟨b, c', rfl, hy⟩ := Rd_II.1 h2
  clear h1 h2
  have HC := Lib.hid (packings_c 119 #[] (exactP ps) (callFunc_run Try.func119 (by kernel_rfl) rfl) a b c c' xs ps _ hx hy hlp
    (Lib.hid fun w' a' d' rest h1 h2 h3 h4 => exactPack1_c a' d' rest w' h2))
  clear hx hy
  go_enter Try.func43, Try.ntmps43
  go_wp2_with fail
  refine HC.out.mono ?_
  rintro e w3 ⟨v, F, rfl, h1, h2, h3, h4⟩
  have HXX := Lib.hid (show RetLists w (packingsS exactP xs ps) _ w3 from ⟨v, F, rfl, h1, h2, h3, h4⟩)
  clear h1 h2 h3 h4
  go_wp2
  go_ret2
  exact HXX.out
end Go.Proofs.Ytdcpdipakglnnaa
