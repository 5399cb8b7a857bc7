/- The text of a system that passes objects: the program's function. Written by mktr.py. -/
import Derived.Test.YtkbhdpkheincoaaDoorTQ
namespace Go.Proofs.YtkbhdpkheincoaaDoor
open Go.RowKit

theorem freeL_bd (x2 : List Bool) : ∀ k, (freeL x2 k).length ≤ k := freeL_len x2
theorem tabBy : Tab Tryd.prog 46 5 (.int .u8 0) 1 1 := ⟨by kernel_rfl, by kernel_rfl⟩
theorem convL (L : List UInt8) (g c n : Nat) (hn : n = L.length) (wx : World) (h : ∀ j u, (L.map (fun b => Value.int .u8 (b.toNat : Int)))[j]? = some u → wx.cell? ⟨g, j, none⟩ = some u) : (convert 46 9 (.slice (some ⟨g, 0, none⟩) n c)).run Tryd.prog wx = .ok (.string ⟨L.toArray⟩) wx := by
  subst hn
  exact run_convert_bytes_back (P := Tryd.prog) wx 46 9 5 ⟨g, 0, none⟩ c L Tryd.underlying46 Tryd.underlying5 Tryd.underlying9 (fun j hj => by
    rw [show (⟨g, 0, none⟩ : Addr).add j = ⟨g, j, none⟩ from by rw [Addr.add_lit, Nat.zero_add]]
    exact h j _ (by simp [hj]))
set_option maxHeartbeats 8000000 in
set_option maxRecDepth 100000 in
theorem implPassingText_c (x0 : Int) (x1 : List Int) (x2 : List Bool) (x3 : List PR) (a1 a2 a3 : Option Addr) (c1 c2 c3 : Nat) (w : World) (h1 : SlI Any w a1 x1) (hc1 : x1.length ≤ c1) (h2 : SlB Any w a2 x2) (h3 : Rd Any w (dPR x3) (.slice a3 x3.length c3)) (hpw : PowAt w) :
    Calls Tryd.prog 7 #[.agg #[.int .i64 x0, .slice a1 x1.length c1, .slice a2 x2.length c2, .slice a3 x3.length c3]] w (RetV w (.string (passT x0 x1 x2 x3))) := by
  have hb0 := below_alloc w (.cells #[.int .i64 x0, .slice a1 x1.length c1, .slice a2 x2.length c2, .slice a3 x3.length c3] 31)
  have HV := Lib.hid (validPassing_c x0 x1 x2 x3 a1 a2 a3 c1 c2 c3 (w.alloc (.cells #[.int .i64 x0, .slice a1 x1.length c1, .slice a2 x2.length c2, .slice a3 x3.length c3] 31)) (h1.below hb0) hc1 (h2.below hb0) (h3.below hb0))
  have HB0 := Lib.hid hb0
  cases hok : okPass x0 x1 x2 x3
  · have e : passT x0 x1 x2 x3 = ⟨#[]⟩ := by rw [passT, if_neg (by rw [hok]; simp)]
    rw [e]
    rw [hok] at HV
    clear e hok hb0 h1 h2 h3 hpw
    go_enter Tryd.func7, Tryd.ntmps7
    go_wp2_with fail
    refine HV.out.mono ?_
    rintro e w1 ⟨rfl, hb1⟩
    have HB1 := Lib.hid (HB0.out.trans (hb1.mono (by simp)))
    clear hb1
    go_wp2
    go_ret
    exact ⟨rfl, HB1.out⟩
  · obtain ⟨K, rfl, hps⟩ := PsOk.of hok
    have HE : Hid (passT (K : Int) x1 x2 x3 = passR K x1 x2 x3 x3.length) := Lib.hid (by rw [passT, if_pos hok]; rfl)
    rw [hok] at HV
    have k8 := hps.k8
    have p1 := hps.p1
    have p4 := hps.p4
    have hfr : x2.length ≤ 8 := by have := hps.free; omega
    have hr8 := hps.r8
    have HPS := Lib.hid hps
    obtain ⟨_, _, e3, k3⟩ := Rd_PR h3
    cases e3
    have i3 := ix_of (P := Tryd.prog) tabPassRuleSM.under tabPassRuleSM.size k3.ptr c3
    have i2 := h2.ix tabB.under tabB.size c2
    have HPW := Lib.hid hpw
    have H2 := Lib.hid h2
    have H3 := Lib.hid h3
    have H1 := Lib.hid h1
    have D0 : Hid (∀ wx, Calls Tryd.prog 18 #[.int .i64 K] wx (RetP wx (.string ⟨(decL K).toArray⟩))) := Lib.hid (fun wx => decimal_c K (by omega) wx)
    have s0 := decLB_size K
    have HP0 : Hid (passP K x1 0 = ⟨#[112, 97, 115, 115, 105, 110, 103, 32]⟩ ++ ⟨(decL K).toArray⟩ ++ ⟨#[10, 99, 101, 108, 108, 115, 32, 45]⟩) := Lib.hid rfl
    have HSP := Lib.hid (passP_size K x1)
    have HSR := Lib.hid (passR_size hps)
    have HFB := Lib.hid (freeB_size x2 (by omega))
    have HR0 : Hid (passR K x1 x2 x3 0 = passP K x1 (x1.length - 1) ++ (⟨#[10, 102, 114, 101, 101, 32]⟩ ++ freeB x2 ++ ⟨#[10]⟩)) := Lib.hid rfl
    obtain ⟨g, o, ha⟩ := (h1.ptr (by omega)).2
    obtain ⟨N, hN⟩ : ∃ N, x1.length = N + 1 := ⟨x1.length - 1, by omega⟩
    have hsl := slice_from (P := Tryd.prog) tabI.under tabI.size g o x1.length N c1 hN
    rw [← ha] at hsl
    have HA := Lib.hid ha
    obtain ⟨oo, hoo⟩ : ∃ oo, oo = if c1 = 1 then o else o + 1 := ⟨_, rfl⟩
    rw [← hoo] at hsl
    have i4 := ix_of (P := Tryd.prog) tabI.under tabI.size (a := some ⟨g, oo, none⟩) (n := N) (fun _ => ⟨g, oo, rfl⟩) (c1 - 1)
    simp only [Nat.mul_one, adr, blk, ofs] at i4
    have HOO := Lib.hid hoo
    have HN := Lib.hid hN
    have HC1 := Lib.hid hc1
    have hN3 : N ≤ 3 := by omega
    obtain ⟨d0, hd0⟩ : ∃ d, d = (⟨(decL K).toArray⟩ : ByteArray) := ⟨_, rfl⟩
    rw [← hd0] at D0 s0 HP0
    clear hps hok hN hoo hc1 hb0 ha h1 h2 h3 k3 hpw hd0
    go_enter Tryd.func7, Tryd.ntmps7
    go_wp2_with fail
    refine HV.out.mono ?_
    rintro e w1 ⟨rfl, hb1⟩
    have f0 : w1.cell? ⟨w.heap.size, 0, none⟩ = some (.int .i64 (K : Int)) := by rw [bcell1 hb1 (by simp)]; simp [go_sem]
    have f1 : w1.cell? ⟨w.heap.size, 1, none⟩ = some (.slice a1 x1.length c1) := by rw [bcell1 hb1 (by simp)]; simp [go_sem]
    have f2 : w1.cell? ⟨w.heap.size, 2, none⟩ = some (.slice a2 x2.length c2) := by rw [bcell1 hb1 (by simp)]; simp [go_sem]
    have f3 : w1.cell? ⟨w.heap.size, 3, none⟩ = some (.slice a3 x3.length c3) := by rw [bcell1 hb1 (by simp)]; simp [go_sem]
    have hz1 : w.heap.size < w1.heap.size := by have := hb1.size; simp at this; omega
    have HB1 : Hid (Below w.heap.size w w1) := Lib.hid (HB0.out.trans (hb1.mono (by simp)))
    clear hb1
    go_wp2_with fail
    refine (D0.out _).mono ?_
    rintro e w2 ⟨rfl, rfl⟩
    go_wp2
    go_loopw [3, 5, 23] (fun s _ i wr => ∃ k : Nat, k ≤ N ∧ i = .int .i64 k ∧ s = .string (passP K x1 k) ∧ w1 = wr) (fun _ _ i _ => N - (intOf i).toNat)
    case atStart => exact ⟨0, Nat.zero_le _, rfl, by rw [HP0.out], rfl⟩
    case round =>
      obtain ⟨k, hk, rfl, rfl, rfl⟩ := hrel
      obtain ⟨b, hb⟩ : ∃ b, b = passP K x1 k := ⟨_, rfl⟩
      have hbs : b.size ≤ 30 := by have := HSP.out k; rw [hb]; omega
      by_cases hlt : k < N
      · have hlt' : (k : Int) < N := by omega
        have g1 : w1.cell? ⟨g, oo + k, none⟩ = some (.int .i64 (nth x1 (k + 1))) := by
          have h := (H1.out.below HB1.out).cell (k + 1) (by have := HN.out; omega)
          have e : oo = o + 1 := by rw [HOO.out, if_neg (by have := HC1.out; have := HN.out; omega)]
          rw [show adr a1 (k + 1) = ⟨g, o + (k + 1), none⟩ from by rw [HA.out]; rfl] at h
          rw [e, show o + 1 + k = o + (k + 1) from by omega]; exact h
        have hpk := HPS.out.par (k + 1) (by omega) (by have := HN.out; omega)
        obtain ⟨t, ht⟩ : ∃ t : Nat, nth x1 (k + 1) = (t : Int) := ⟨(nth x1 (k + 1)).toNat, by omega⟩
        have HN1 : Hid (b ++ (⟨#[32]⟩ ++ ⟨(decL t).toArray⟩) = passP K x1 (k + 1)) := Lib.hid (by rw [passP, hb, ht]; rfl)
        rw [ht] at g1 hpk
        have D1 : Hid (∀ wx, Calls Tryd.prog 18 #[.int .i64 t] wx (RetP wx (.string ⟨(decL t).toArray⟩))) := Lib.hid (fun wx => decimal_c t (by omega) wx)
        have s1 := decLB_size t
        rw [← hb]
        obtain ⟨d1, hd1⟩ : ∃ d, d = (⟨(decL t).toArray⟩ : ByteArray) := ⟨_, rfl⟩
        rw [← hd1] at D1 s1 HN1
        clear hb ht hpk hd1
        go_wp2_with fail
        refine (D1.out _).mono ?_
        rintro e w3 ⟨rfl, rfl⟩
        go_wp2
        go_roundw
        case rel => exact ⟨k + 1, by omega, by go_num, by rw [HN1.out], trivial⟩
        case measure => simp [intOf]; omega
      · obtain rfl : k = N := by omega
        have HNP : Hid (b = passP K x1 (x1.length - 1)) := Lib.hid (by rw [hb, HN.out]; rfl)
        rw [← hb]
        clear hb
        have HBL0 : Hid (Bld 5 (w1.alloc (.cells #[] 5)) w1.heap.size (.slice (some ⟨w1.heap.size, 0, none⟩) 0 0) (([] : List UInt8).map (fun b => Value.int .u8 (b.toNat : Int)))) := Lib.hid (Bld.empty 5 w1 _ (Nat.le_refl _))
        have HB2 : Hid (Below w.heap.size w (w1.alloc (.cells #[] 5))) := Lib.hid (HB1.out.alloc HB1.out.size _)
        have HBW2 : Hid (Below w1.heap.size w1 (w1.alloc (.cells #[] 5))) := Lib.hid (below_alloc _ _)
        go_wp2
        go_loopw [6, 7, 8, 37] (fun v _ _ i wr => ∃ (k : Nat) (L : List UInt8), k ≤ x2.length ∧ i = .int .i64 k ∧ Hid (L = freeL x2 k) ∧ Hid (Below w1.heap.size w1 wr) ∧ Hid (Below w.heap.size w wr) ∧ Hid (Bld 5 wr w1.heap.size v (L.map (fun b => Value.int .u8 (b.toNat : Int))))) (fun _ _ _ i _ => x2.length - (intOf i).toNat)
        case atStart => exact ⟨0, [], Nat.zero_le _, rfl, Lib.hid rfl, HBW2, HB2, HBL0⟩
        case round =>
          obtain ⟨k, L, hk, rfl, HLK, HBX, HBW, HBL⟩ := hrel
          have HWL : Hid (L.length ≤ 8) := Lib.hid (by rw [HLK.out]; have := freeL_len x2 k; omega)
          have z3 : w.heap.size < wr.heap.size := by have := HBX.out.size; omega
          by_cases hlt : k < x2.length
          · have hlt' : (k : Int) < x2.length := by omega
            have g1 := (H2.out.below HBW.out).cell k hlt
            cases hf : nthB x2 k
            · rw [hf] at g1
              have HN1 : Hid (L = freeL x2 (k + 1)) := Lib.hid (by rw [freeL, if_neg (by rw [hf]; simp)]; exact HLK.out)
              clear hf
              go_wp2
              go_roundw
              case rel => exact ⟨k + 1, L, by omega, by go_num, HN1, HBX, HBW, HBL⟩
              case measure => simp [intOf]; omega
            · rw [hf] at g1
              have HN1 : Hid (freeL x2 (k + 1) = L ++ [UInt8.ofNat (97 + k)]) := Lib.hid (by rw [freeL, if_pos hf, HLK.out])
              have e3 : IntKind.u8.wrap (97 + (k : Int)) = 97 + k := by simp [IntKind.wrap, IntKind.bits, IntKind.signed]; omega
              have hb6 := below_alloc wr (.cells #[.int .u8 (97 + (k : Int))] 5)
              have hbl6 := Lib.hid (HBL.out.below hb6)
              have HBX6 : Hid (Below w1.heap.size w1 (wr.alloc (.cells #[.int .u8 (97 + (k : Int))] 5))) := Lib.hid (bnext HBX.out hb6 (Nat.le_refl _))
              have HB6 : Hid (Below w.heap.size w (wr.alloc (.cells #[.int .u8 (97 + (k : Int))] 5))) := Lib.hid (bnext HBW.out hb6 (Nat.le_refl _))
              clear hf hb6
              go_wp2_with (at_builtin; refine app_one rfl _ _ 46 rfl tabBy rfl (by decide) w1.heap.size _ _ rfl hbl6.out wr.heap.size (.int .u8 (97 + (k : Int))) rfl rfl ?c1 ?c2 ?c3 ?_)
              first | (case c1 => simp) | skip
              case c2 => have := HWL.out; simp; omega
              case c3 => have := HBX.out.size; simp; omega
              intro v' w7 hbl7 hb7
              have HB7 : Hid (Below w.heap.size w w7) := Lib.hid (HB6.out.trans (hb7.mono (by omega)))
              have HBX7 : Hid (Below w1.heap.size w1 w7) := Lib.hid (HBX6.out.trans hb7)
              have HBL7 : Hid (Bld 5 w7 w1.heap.size v' ((freeL x2 (k + 1)).map (fun b => Value.int .u8 (b.toNat : Int)))) := Lib.hid (by
                rw [HN1.out, List.map_append, List.map_cons, List.map_nil, show ((UInt8.ofNat (97 + k)).toNat : Int) = 97 + k from by simp; omega]; exact hbl7)
              clear hbl7 hb7 hbl6 HBL
              go_wp2
              go_roundw
              case rel => exact ⟨k + 1, _, by omega, by go_num, Lib.hid rfl, HBX7, HB7, HBL7⟩
              case measure => simp [intOf]; omega
          · obtain rfl : k = x2.length := by omega
            have hss := HFB.out
            by_cases hL : L = []
            · have HFE : Hid ((⟨#[45]⟩ : ByteArray) = freeB x2) := Lib.hid (by rw [freeB, if_pos (by rw [← HLK.out]; exact hL)])
              subst hL
              have hb6 := below_alloc wr (.cells #[.int .u8 45] 5)
              have hbl6 := Lib.hid (HBL.out.below hb6)
              have HBX6 : Hid (Below w1.heap.size w1 (wr.alloc (.cells #[.int .u8 45] 5))) := Lib.hid (bnext HBX.out hb6 (Nat.le_refl _))
              have HB6 : Hid (Below w.heap.size w (wr.alloc (.cells #[.int .u8 45] 5))) := Lib.hid (bnext HBW.out hb6 (Nat.le_refl _))
              obtain ⟨ad, cd, rfl⟩ := HBL.out.anyV
              simp only [List.map_nil, List.length_nil] at hbl6 ⊢
              obtain ⟨s, hs⟩ : ∃ s, s = freeB x2 := ⟨_, rfl⟩
              rw [← hs] at hss HFE
              have HR1 : Hid (b ++ (⟨#[10, 102, 114, 101, 101, 32]⟩ ++ s ++ ⟨#[10]⟩) = passR K x1 x2 x3 0) := Lib.hid (by rw [HR0.out, HNP.out, hs])
              clear hb6 hs HBL
              go_wp2_with (at_builtin; refine app_one rfl _ _ 46 rfl tabBy rfl (by decide) w1.heap.size _ _ rfl hbl6.out wr.heap.size (.int .u8 45) rfl rfl ?c1 ?c2 ?c3 ?_)
              first | (case c1 => simp) | skip
              case c2 => simp
              case c3 => have := HBX.out.size; simp; omega
              intro v' w7 hbl7 hb7
              obtain ⟨G, cG, hv, hG, hcG, hcell⟩ := hbl7.full (by simp)
              simp only [List.nil_append, List.length_cons, List.length_nil, Nat.zero_add] at hv hcell
              subst hv
              have kc := convL [45] G cG 1 rfl w7 (fun j u hu => hcell j u hu)
              rw [show (⟨[45].toArray⟩ : ByteArray) = s from HFE.out] at kc
              have HBT : Hid (Below w.heap.size w w7) := Lib.hid (HB6.out.trans (hb7.mono (by omega)))
              have f3T : w7.cell? ⟨w.heap.size, 3, none⟩ = some (.slice a3 x3.length c3) := (bcell1 (HBX6.out.trans hb7) hz1).trans f3
              clear hbl7 hb7 hbl6 hcell HFE
              go_wp2
              go_loopw [3, 10, 65] (fun s _ i wx => ∃ k : Nat, k ≤ x3.length ∧ i = .int .i64 k ∧ s = .string (passR K x1 x2 x3 k) ∧ Hid (Below w.heap.size w wx)) (fun _ _ i _ => x3.length - (intOf i).toNat)
              case atStart => exact ⟨0, Nat.zero_le _, rfl, by rw [HR1.out], HBT⟩
              case round =>
                obtain ⟨k, hk, rfl, rfl, HBx⟩ := hrel
                by_cases hlt : k < x3.length
                · obtain ⟨b, hb⟩ : ∃ b, b = passR K x1 x2 x3 k := ⟨_, rfl⟩
                  have hbs : b.size ≤ 1000 := by have := HSR.out k hk; rw [hb]; omega
                  have hlt' : (k : Int) < x3.length := by omega
                  obtain ⟨_, _, ex, hxs⟩ := Rd_PR (H3.out.below HBx.out)
                  cases ex
                  have g0 := hxs.c0 k hlt
                  obtain ⟨b1, d1, g1, k1⟩ := hxs.c1 k hlt
                  obtain ⟨b2, d2, g2, k2⟩ := hxs.c2 k hlt
                  obtain ⟨o8, i8, ob, ib, _, _⟩ := HPS.out.bags hlt
                  have hcl := HPS.out.cell k hlt
                  have HN1 : Hid (b ++ ruleT (nthPR x3 k) = passR K x1 x2 x3 (k + 1)) := Lib.hid (by rw [passR, hb])
                  rw [← hb]
                  obtain ⟨r, hr⟩ : ∃ r, r = nthPR x3 k := ⟨_, rfl⟩
                  rw [← hr] at g0 g1 k1 g2 k2 o8 i8 ob ib hcl HN1
                  obtain ⟨t, ht⟩ : ∃ t : Nat, r.cell = (t : Int) := ⟨r.cell.toNat, by omega⟩
                  have HM : Hid (b ++ (⟨#[112, 97, 115, 115, 32]⟩ ++ ⟨(decL t).toArray⟩ ++ ⟨#[32]⟩ ++ bagTextT r.out ++ ⟨#[32, 47, 32]⟩ ++ bagTextT r.inn ++ ⟨#[10]⟩) = passR K x1 x2 x3 (k + 1)) := Lib.hid (by rw [← HN1.out, ruleT, ht]; rfl)
                  rw [ht] at g0 hcl
                  have hbA := below_alloc wr (.cells #[.int .i64 (t : Int), .slice b1 r.out.length d1, .slice b2 r.inn.length d2] 48)
                  have hpA := (HPW.out.below HBx.out).below hbA
                  have D1 : Hid (∀ x : Wd (wr.alloc (.cells #[.int .i64 (t : Int), .slice b1 r.out.length d1, .slice b2 r.inn.length d2] 48)), Calls Tryd.prog 18 #[.int .i64 t] (wat x) (RetV (wat x) (.string ⟨(decL t).toArray⟩))) := Lib.hid (fun x => callsP (decimal_c t (by omega) _))
                  have T1 : Hid (∀ x : Wd (wr.alloc (.cells #[.int .i64 (t : Int), .slice b1 r.out.length d1, .slice b2 r.inn.length d2] 48)), Calls Tryd.prog 19 #[.slice b1 r.out.length d1] (wat x) (RetV (wat x) (.string (bagTextT r.out)))) := Lib.hid (fun x => bagText_c b1 d1 r.out _ ((k1.below hbA).below (wat_below x)) o8 ob (hpA.below (wat_below x)))
                  have T2 : Hid (∀ x : Wd (wr.alloc (.cells #[.int .i64 (t : Int), .slice b1 r.out.length d1, .slice b2 r.inn.length d2] 48)), Calls Tryd.prog 19 #[.slice b2 r.inn.length d2] (wat x) (RetV (wat x) (.string (bagTextT r.inn)))) := Lib.hid (fun x => bagText_c b2 d2 r.inn _ ((k2.below hbA).below (wat_below x)) i8 ib (hpA.below (wat_below x)))
                  have q0 := wat_cell (show (wr.alloc (.cells #[.int .i64 (t : Int), .slice b1 r.out.length d1, .slice b2 r.inn.length d2] 48)).cell? ⟨wr.heap.size, 0, none⟩ = some (.int .i64 (t : Int)) by simp [go_sem])
                  have q1 := wat_cell (show (wr.alloc (.cells #[.int .i64 (t : Int), .slice b1 r.out.length d1, .slice b2 r.inn.length d2] 48)).cell? ⟨wr.heap.size, 1, none⟩ = some (.slice b1 r.out.length d1) by simp [go_sem])
                  have q2 := wat_cell (show (wr.alloc (.cells #[.int .i64 (t : Int), .slice b1 r.out.length d1, .slice b2 r.inn.length d2] 48)).cell? ⟨wr.heap.size, 2, none⟩ = some (.slice b2 r.inn.length d2) by simp [go_sem])
                  have HBA : Hid (Below w.heap.size w (wr.alloc (.cells #[.int .i64 (t : Int), .slice b1 r.out.length d1, .slice b2 r.inn.length d2] 48))) := Lib.hid (bnext HBx.out hbA (Nat.le_refl _))
                  have s1 := decLB_size t
                  have s2 := bagText_size o8 ob
                  have s3 := bagText_size i8 ib
                  obtain ⟨t0, ht0⟩ : ∃ d, d = (⟨(decL t).toArray⟩ : ByteArray) := ⟨_, rfl⟩
                  obtain ⟨t1, ht1⟩ : ∃ d, d = bagTextT r.out := ⟨_, rfl⟩
                  obtain ⟨t2, ht2⟩ : ∃ d, d = bagTextT r.inn := ⟨_, rfl⟩
                  rw [← ht0] at D1 s1 HM
                  rw [← ht1] at T1 s2 HM
                  rw [← ht2] at T2 s3 HM
                  clear hb hr ht ht0 ht1 ht2 hxs k1 k2 o8 i8 ob ib hcl hbA hpA HN1
                  go_wp2
                  refine wp_quiet_wd (by kernel_rfl) (by kernel_rfl) ?_
                  repeat (go_big_quiet_step (first | with_reducible exact wdV (D1.out _) | with_reducible exact wdV (T1.out _) | with_reducible exact wdV (T2.out _)))
                  refine wpQuiet_nil ?_
                  rintro _ ⟨wq, rfl⟩
                  have HB9 : Hid (Below w.heap.size w (wat wq)) := Lib.hid (bnext HBA.out (wat_below wq) (Nat.le_refl _))
                  go_wp2
                  first
                    | (go_roundw
                       case rel => exact ⟨k + 1, by omega, by go_num, by rw [HM.out], HB9⟩
                       case measure => simp [intOf]; omega)
                    | (refine ⟨⟨k + 1, by omega, by go_num, by rw [HM.out], HB9⟩, ?_⟩
                       simp [intOf]; omega)
                · obtain rfl : k = x3.length := by omega
                  go_wp2
                  go_ret
                  exact ⟨ret_strB HE.out.symm, HBx.out⟩
            · have HFE : Hid ((⟨L.toArray⟩ : ByteArray) = freeB x2) := Lib.hid (by rw [freeB, if_neg (by rw [← HLK.out]; exact hL), HLK.out])
              obtain ⟨G, cG, hv, hG, hcG, hcell⟩ := HBL.out.full (by simpa using hL)
              have hLn : 0 < L.length := List.length_pos_iff.2 hL
              simp only [List.length_map] at hv
              have kc := fun n hn => convL L G cG n hn wr (fun j u hu => hcell j u hu)
              obtain ⟨n, hn⟩ : ∃ n, n = L.length := ⟨_, rfl⟩
              replace kc := kc n hn
              rw [← hn] at hv hLn
              subst hv
              obtain ⟨s, hs⟩ : ∃ s, s = freeB x2 := ⟨_, rfl⟩
              rw [← hs] at hss HFE
              rw [HFE.out] at kc
              have HR1 : Hid (b ++ (⟨#[10, 102, 114, 101, 101, 32]⟩ ++ s ++ ⟨#[10]⟩) = passR K x1 x2 x3 0) := Lib.hid (by rw [HR0.out, HNP.out, hs])
              have hni : ¬ (n : Int) = 0 := by omega
              have HBT : Hid (Below w.heap.size w wr) := HBW
              have f3T : wr.cell? ⟨w.heap.size, 3, none⟩ = some (.slice a3 x3.length c3) := (bcell1 HBX.out hz1).trans f3
              clear hL hs hn hcell HFE hcG HBL HWL HLK
              go_wp2
              go_loopw [3, 10, 65] (fun s _ i wx => ∃ k : Nat, k ≤ x3.length ∧ i = .int .i64 k ∧ s = .string (passR K x1 x2 x3 k) ∧ Hid (Below w.heap.size w wx)) (fun _ _ i _ => x3.length - (intOf i).toNat)
              case atStart => exact ⟨0, Nat.zero_le _, rfl, by rw [HR1.out], HBT⟩
              case round =>
                obtain ⟨k, hk, rfl, rfl, HBx⟩ := hrel
                by_cases hlt : k < x3.length
                · obtain ⟨b, hb⟩ : ∃ b, b = passR K x1 x2 x3 k := ⟨_, rfl⟩
                  have hbs : b.size ≤ 1000 := by have := HSR.out k hk; rw [hb]; omega
                  have hlt' : (k : Int) < x3.length := by omega
                  obtain ⟨_, _, ex, hxs⟩ := Rd_PR (H3.out.below HBx.out)
                  cases ex
                  have g0 := hxs.c0 k hlt
                  obtain ⟨b1, d1, g1, k1⟩ := hxs.c1 k hlt
                  obtain ⟨b2, d2, g2, k2⟩ := hxs.c2 k hlt
                  obtain ⟨o8, i8, ob, ib, _, _⟩ := HPS.out.bags hlt
                  have hcl := HPS.out.cell k hlt
                  have HN1 : Hid (b ++ ruleT (nthPR x3 k) = passR K x1 x2 x3 (k + 1)) := Lib.hid (by rw [passR, hb])
                  rw [← hb]
                  obtain ⟨r, hr⟩ : ∃ r, r = nthPR x3 k := ⟨_, rfl⟩
                  rw [← hr] at g0 g1 k1 g2 k2 o8 i8 ob ib hcl HN1
                  obtain ⟨t, ht⟩ : ∃ t : Nat, r.cell = (t : Int) := ⟨r.cell.toNat, by omega⟩
                  have HM : Hid (b ++ (⟨#[112, 97, 115, 115, 32]⟩ ++ ⟨(decL t).toArray⟩ ++ ⟨#[32]⟩ ++ bagTextT r.out ++ ⟨#[32, 47, 32]⟩ ++ bagTextT r.inn ++ ⟨#[10]⟩) = passR K x1 x2 x3 (k + 1)) := Lib.hid (by rw [← HN1.out, ruleT, ht]; rfl)
                  rw [ht] at g0 hcl
                  have hbA := below_alloc wr (.cells #[.int .i64 (t : Int), .slice b1 r.out.length d1, .slice b2 r.inn.length d2] 48)
                  have hpA := (HPW.out.below HBx.out).below hbA
                  have D1 : Hid (∀ x : Wd (wr.alloc (.cells #[.int .i64 (t : Int), .slice b1 r.out.length d1, .slice b2 r.inn.length d2] 48)), Calls Tryd.prog 18 #[.int .i64 t] (wat x) (RetV (wat x) (.string ⟨(decL t).toArray⟩))) := Lib.hid (fun x => callsP (decimal_c t (by omega) _))
                  have T1 : Hid (∀ x : Wd (wr.alloc (.cells #[.int .i64 (t : Int), .slice b1 r.out.length d1, .slice b2 r.inn.length d2] 48)), Calls Tryd.prog 19 #[.slice b1 r.out.length d1] (wat x) (RetV (wat x) (.string (bagTextT r.out)))) := Lib.hid (fun x => bagText_c b1 d1 r.out _ ((k1.below hbA).below (wat_below x)) o8 ob (hpA.below (wat_below x)))
                  have T2 : Hid (∀ x : Wd (wr.alloc (.cells #[.int .i64 (t : Int), .slice b1 r.out.length d1, .slice b2 r.inn.length d2] 48)), Calls Tryd.prog 19 #[.slice b2 r.inn.length d2] (wat x) (RetV (wat x) (.string (bagTextT r.inn)))) := Lib.hid (fun x => bagText_c b2 d2 r.inn _ ((k2.below hbA).below (wat_below x)) i8 ib (hpA.below (wat_below x)))
                  have q0 := wat_cell (show (wr.alloc (.cells #[.int .i64 (t : Int), .slice b1 r.out.length d1, .slice b2 r.inn.length d2] 48)).cell? ⟨wr.heap.size, 0, none⟩ = some (.int .i64 (t : Int)) by simp [go_sem])
                  have q1 := wat_cell (show (wr.alloc (.cells #[.int .i64 (t : Int), .slice b1 r.out.length d1, .slice b2 r.inn.length d2] 48)).cell? ⟨wr.heap.size, 1, none⟩ = some (.slice b1 r.out.length d1) by simp [go_sem])
                  have q2 := wat_cell (show (wr.alloc (.cells #[.int .i64 (t : Int), .slice b1 r.out.length d1, .slice b2 r.inn.length d2] 48)).cell? ⟨wr.heap.size, 2, none⟩ = some (.slice b2 r.inn.length d2) by simp [go_sem])
                  have HBA : Hid (Below w.heap.size w (wr.alloc (.cells #[.int .i64 (t : Int), .slice b1 r.out.length d1, .slice b2 r.inn.length d2] 48))) := Lib.hid (bnext HBx.out hbA (Nat.le_refl _))
                  have s1 := decLB_size t
                  have s2 := bagText_size o8 ob
                  have s3 := bagText_size i8 ib
                  obtain ⟨t0, ht0⟩ : ∃ d, d = (⟨(decL t).toArray⟩ : ByteArray) := ⟨_, rfl⟩
                  obtain ⟨t1, ht1⟩ : ∃ d, d = bagTextT r.out := ⟨_, rfl⟩
                  obtain ⟨t2, ht2⟩ : ∃ d, d = bagTextT r.inn := ⟨_, rfl⟩
                  rw [← ht0] at D1 s1 HM
                  rw [← ht1] at T1 s2 HM
                  rw [← ht2] at T2 s3 HM
                  clear hb hr ht ht0 ht1 ht2 hxs k1 k2 o8 i8 ob ib hcl hbA hpA HN1
                  go_wp2
                  refine wp_quiet_wd (by kernel_rfl) (by kernel_rfl) ?_
                  repeat (go_big_quiet_step (first | with_reducible exact wdV (D1.out _) | with_reducible exact wdV (T1.out _) | with_reducible exact wdV (T2.out _)))
                  refine wpQuiet_nil ?_
                  rintro _ ⟨wq, rfl⟩
                  have HB9 : Hid (Below w.heap.size w (wat wq)) := Lib.hid (bnext HBA.out (wat_below wq) (Nat.le_refl _))
                  go_wp2
                  first
                    | (go_roundw
                       case rel => exact ⟨k + 1, by omega, by go_num, by rw [HM.out], HB9⟩
                       case measure => simp [intOf]; omega)
                    | (refine ⟨⟨k + 1, by omega, by go_num, by rw [HM.out], HB9⟩, ?_⟩
                       simp [intOf]; omega)
                · obtain rfl : k = x3.length := by omega
                  go_wp2
                  go_ret
                  exact ⟨ret_strB HE.out.symm, HBx.out⟩
end Go.Proofs.YtkbhdpkheincoaaDoor
