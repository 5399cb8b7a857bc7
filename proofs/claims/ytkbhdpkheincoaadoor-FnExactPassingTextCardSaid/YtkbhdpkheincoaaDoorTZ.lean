/- The text of a system that passes objects: the reference's functions, and both on data. Written by mktz.py. -/
import Derived.Test.YtkbhdpkheincoaaDoorTR
namespace Go.Proofs.YtkbhdpkheincoaaDoor
open Go.RowKit

def passQ (K : Nat) (x1 : List Int) : Nat → ByteArray
  | 0 => ⟨#[112, 97, 115, 115, 105, 110, 103, 32]⟩ ++ ⟨(decL K).toArray⟩ ++ ⟨#[10, 99, 101, 108, 108, 115]⟩
  | k + 1 => passP K x1 k
theorem passQ_size (K : Nat) (x1 : List Int) : ∀ k, (passQ K x1 k).size ≤ 17 + 2 * k
  | 0 => by rw [passQ, ByteArray.size_append, ByteArray.size_append, decLB_size]; decide
  | k + 1 => by rw [passQ, passP_size]; omega
def freeS (x2 : List Bool) (k : Nat) : ByteArray := ⟨(freeL x2 k).toArray⟩
theorem freeS_size (x2 : List Bool) (k : Nat) : (freeS x2 k).size = (freeL x2 k).length := by show (List.toArray _).size = _; simp
set_option maxHeartbeats 8000000 in
set_option maxRecDepth 100000 in
theorem l06Text_c (K : Nat) (x1 : List Int) (x2 : List Bool) (x3 : List PR) (a1 a2 a3 : Option Addr) (c1 c2 c3 : Nat) (p : Nat) (w : World) (hps : PsOk K x1 x2 x3) (h1 : SlI Any w a1 x1) (h2 : SlB Any w a2 x2) (h3 : Rd Any w (dPR x3) (.slice a3 x3.length c3))
    (hp0 : w.cell? ⟨p, 0, none⟩ = some (.int .i64 (K : Int))) (hp1 : w.cell? ⟨p, 1, none⟩ = some (.slice a1 x1.length c1)) (hp2 : w.cell? ⟨p, 2, none⟩ = some (.slice a2 x2.length c2)) (hp3 : w.cell? ⟨p, 3, none⟩ = some (.slice a3 x3.length c3)) :
    Calls Tryd.prog 13 #[.pointer (some ⟨p, 0, none⟩)] w (RetV w (.string (passR K x1 x2 x3 x3.length))) := by
  have k8 := hps.k8
  have p1 := hps.p1
  have p4 := hps.p4
  have hfr : x2.length ≤ 8 := by have := hps.free; omega
  have hr8 := hps.r8
  have HPS := Lib.hid hps
  obtain ⟨_, _, e3, k3⟩ := Rd_PR h3
  cases e3
  have i1 := h1.ix tabI.under tabI.size c1
  have i2 := h2.ix tabB.under tabB.size c2
  have i3 := ix_of (P := Tryd.prog) tabPassRuleSM.under tabPassRuleSM.size k3.ptr c3
  simp only [adr] at i3
  have H1 := Lib.hid h1
  have H2 := Lib.hid h2
  have H3 := Lib.hid h3
  have zp := World.block_lt_of_cell? w _ hp0
  have zp' : p < w.heap.size := zp
  have P1 := Lib.hid hp1
  have P2 := Lib.hid hp2
  have P3 := Lib.hid hp3
  have D0 : Hid (∀ wx, Calls Tryd.prog 26 #[.int .i64 K] wx (RetV wx (.string ⟨(decL K).toArray⟩))) := Lib.hid (fun wx => Decimal_c K (by omega) wx)
  have s0 := decLB_size K
  have HP0 : Hid (passQ K x1 0 = ⟨#[112, 97, 115, 115, 105, 110, 103, 32]⟩ ++ ⟨(decL K).toArray⟩ ++ ⟨#[10, 99, 101, 108, 108, 115]⟩) := Lib.hid rfl
  have HQ0 : Hid (passQ K x1 0 ++ ⟨#[32, 45]⟩ = passQ K x1 1) := Lib.hid (by
    rw [passQ, passQ, passP, ByteArray.append_assoc]; rfl)
  have HSP := Lib.hid (passQ_size K x1)
  have HSR := Lib.hid (passR_size hps)
  have HFB := Lib.hid (freeB_size x2 (by omega))
  have HR0 : Hid (passR K x1 x2 x3 0 = passQ K x1 (x1.length - 1 + 1) ++ (⟨#[10, 102, 114, 101, 101, 32]⟩ ++ freeB x2 ++ ⟨#[10]⟩)) := Lib.hid rfl
  obtain ⟨d0, hd0⟩ : ∃ d, d = (⟨(decL K).toArray⟩ : ByteArray) := ⟨_, rfl⟩
  rw [← hd0] at D0 s0 HP0
  clear hps h1 h2 h3 k3 hd0 zp hp1 hp2 hp3
  go_enter Tryd.func13, Tryd.ntmps13
  go_wp2_with fail
  refine (D0.out _).mono ?_
  rintro e w1 ⟨rfl, hb1⟩
  have HB1 : Hid (Below w.heap.size w w1) := Lib.hid hb1
  clear hb1 hp0
  go_wp2
  go_loopw [3, 4] (fun s i wr => ∃ k : Nat, k ≤ x1.length ∧ i = .int .i64 k ∧ s = .string (passQ K x1 k) ∧ Hid (Below w.heap.size w wr)) (fun _ i _ => x1.length - (intOf i).toNat)
  case atStart => exact ⟨0, Nat.zero_le _, rfl, by rw [HP0.out], HB1⟩
  case round =>
    obtain ⟨k, hk, rfl, rfl, HB⟩ := hrel
    have f1 := (bcell1 HB.out zp').trans P1.out
    obtain ⟨b, hb⟩ : ∃ b, b = passQ K x1 k := ⟨_, rfl⟩
    have hbs : b.size ≤ 30 := by have := HSP.out k; rw [hb]; omega
    by_cases hlt : k < x1.length
    · have hlt' : (k : Int) < x1.length := by omega
      have g1 := (H1.out.below HB.out).cell k hlt
      cases k with
      | zero =>
        rw [HPS.out.par0] at g1
        have HN1 : Hid (b ++ ⟨#[32, 45]⟩ = passQ K x1 1) := Lib.hid (by rw [← HQ0.out, hb])
        rw [← hb]
        clear hb
        go_wp2
        go_roundw
        case rel => exact ⟨1, by omega, by go_num, by rw [HN1.out], HB⟩
        case measure => simp [intOf]; omega
      | succ k =>
        have hpk := HPS.out.par (k + 1) (by omega) hlt
        obtain ⟨t, ht⟩ : ∃ t : Nat, nth x1 (k + 1) = (t : Int) := ⟨(nth x1 (k + 1)).toNat, by omega⟩
        have HN1 : Hid (b ++ (⟨#[32]⟩ ++ ⟨(decL t).toArray⟩) = passQ K x1 (k + 2)) := Lib.hid (by rw [passQ, passP, hb, ht]; rfl)
        rw [ht] at g1 hpk
        have ht0 : ¬ (t : Int) < 0 := by omega
        have D1 : Hid (∀ wx, Calls Tryd.prog 26 #[.int .i64 t] wx (RetV wx (.string ⟨(decL t).toArray⟩))) := Lib.hid (fun wx => Decimal_c t (by omega) wx)
        have s1 := decLB_size t
        rw [← hb]
        obtain ⟨d1, hd1⟩ : ∃ d, d = (⟨(decL t).toArray⟩ : ByteArray) := ⟨_, rfl⟩
        rw [← hd1] at D1 s1 HN1
        obtain ⟨m, hm⟩ : ∃ m, m = k + 1 := ⟨_, rfl⟩
        rw [← hm] at g1 hlt hlt' hk ⊢
        have HM : Hid (m = k + 1) := Lib.hid hm
        clear hb ht hpk hd1 hm
        go_wp2_with fail
        refine (D1.out _).mono ?_
        rintro e w3 ⟨rfl, hb3⟩
        have HB3 : Hid (Below w.heap.size w w3) := Lib.hid (bnext HB.out hb3 (Nat.le_refl _))
        clear hb3
        go_wp2
        go_roundw
        case rel => exact ⟨m + 1, by omega, by go_num, by rw [HN1.out, HM.out], HB3⟩
        case measure => simp [intOf]; omega
    · obtain rfl : k = x1.length := by omega
      have HNP : Hid (b = passQ K x1 (x1.length - 1 + 1)) := Lib.hid (by rw [hb, show x1.length - 1 + 1 = x1.length from by omega])
      rw [← hb]
      clear hb
      have HF0 : Hid (freeS x2 0 = ⟨#[]⟩) := Lib.hid rfl
      have hz1 : p < wr.heap.size := by have := HB.out.size; omega
      go_wp2
      go_loopw [5, 6] (fun s i wy => ∃ k : Nat, k ≤ x2.length ∧ i = .int .i64 k ∧ s = .string (freeS x2 k) ∧ Hid (Below w.heap.size w wy)) (fun _ i _ => x2.length - (intOf i).toNat)
      case atStart => exact ⟨0, Nat.zero_le _, rfl, by rw [HF0.out], HB⟩
      case round =>
        obtain ⟨k, hk, rfl, rfl, HBW⟩ := hrel
        have f2 := (bcell1 HBW.out zp').trans P2.out
        obtain ⟨x, hx⟩ : ∃ x, x = freeS x2 k := ⟨_, rfl⟩
        have hxs : x.size ≤ 8 := by rw [hx, freeS_size]; have := freeL_len x2 k; omega
        by_cases hlt : k < x2.length
        · have hlt' : (k : Int) < x2.length := by omega
          have g1 := (H2.out.below HBW.out).cell k hlt
          cases hf : nthB x2 k
          · rw [hf] at g1
            have HN1 : Hid (freeS x2 (k + 1) = x) := Lib.hid (by rw [hx, freeS, freeS, freeL, if_neg (by rw [hf]; simp)])
            rw [← hx]
            clear hf hx
            go_wp2
            go_roundw
            case rel => exact ⟨k + 1, by omega, by go_num, by rw [HN1.out], HBW⟩
            case measure => simp [intOf]; omega
          · rw [hf] at g1
            have HN1 : Hid (freeS x2 (k + 1) = x ++ ⟨#[UInt8.ofNat (97 + k)]⟩) := Lib.hid (by rw [hx, freeS, freeS, freeL, if_pos hf, ← ByteArray.mk_append_mk])
            have e3 : IntKind.u8.wrap (97 + (k : Int)) = 97 + k := by simp [IntKind.wrap, IntKind.bits, IntKind.signed]; omega
            have kc := convK k (by omega) wr.heap.size (wr.alloc (.cells #[.int .u8 (97 + (k : Int))] 5)) (by simp [go_sem])
            have HBA : Hid (Below w.heap.size w (wr.alloc (.cells #[.int .u8 (97 + (k : Int))] 5))) := Lib.hid (bnext HBW.out (below_alloc _ _) (Nat.le_refl _))
            rw [← hx]
            obtain ⟨y, hy⟩ : ∃ y, y = UInt8.ofNat (97 + k) := ⟨_, rfl⟩
            rw [← hy] at kc HN1
            clear hf hx hy
            go_wp2
            go_roundw
            case rel => exact ⟨k + 1, by omega, by go_num, by rw [HN1.out], HBA⟩
            case measure => simp [intOf]; omega
        · obtain rfl : k = x2.length := by omega
          have hz2 : p < wr.heap.size := by have := HBW.out.size; omega
          have hss := HFB.out
          rw [← hx]
          by_cases hz : x.size = 0
          · have hl : x.toList = [] := toList_nil hz
            have HFE : Hid ((⟨#[45]⟩ : ByteArray) = freeB x2) := Lib.hid (by rw [freeB, if_pos (by rw [hx, freeS_size] at hz; exact List.eq_nil_of_length_eq_zero hz)])
            have HR1 : Hid (b ++ (⟨#[10, 102, 114, 101, 101, 32]⟩ ++ ⟨#[45]⟩ ++ ⟨#[10]⟩) = passR K x1 x2 x3 0) := Lib.hid (by rw [HR0.out, HNP.out, HFE.out])
            clear hx
            go_wp2
            go_loopw [3, 7, 8] (fun s i _ wx => ∃ k : Nat, k ≤ x3.length ∧ i = .int .i64 k ∧ s = .string (passR K x1 x2 x3 k) ∧ Hid (Below w.heap.size w wx)) (fun _ i _ _ => x3.length - (intOf i).toNat)
            case atStart => exact ⟨0, Nat.zero_le _, rfl, by rw [HR1.out], HBW⟩
            case round =>
              obtain ⟨k, hk, rfl, rfl, HBx⟩ := hrel
              have f3 := (bcell1 HBx.out zp').trans P3.out
              by_cases hlt : k < x3.length
              · obtain ⟨b, hb⟩ : ∃ b, b = passR K x1 x2 x3 k := ⟨_, rfl⟩
                have hbs : b.size ≤ 1000 := by have := HSR.out k hk; rw [hb]; omega
                have hlt' : (k : Int) < x3.length := by omega
                obtain ⟨_, _, ex, hxs⟩ := Rd_PR (H3.out.below HBx.out)
                cases ex
                have g0 := hxs.c0 k hlt
                obtain ⟨b1, d1, g1, k1⟩ := hxs.c1 k hlt
                obtain ⟨b2, d2, g2, k2⟩ := hxs.c2 k hlt
                obtain ⟨o8, i8, ob, ib, bo, bi⟩ := HPS.out.bags hlt
                have hcl := HPS.out.cell k hlt
                have HN1 : Hid (b ++ ruleT (nthPR x3 k) = passR K x1 x2 x3 (k + 1)) := Lib.hid (by rw [passR, hb])
                rw [← hb]
                obtain ⟨r, hr⟩ : ∃ r, r = nthPR x3 k := ⟨_, rfl⟩
                rw [← hr] at g0 g1 k1 g2 k2 o8 i8 ob ib hcl HN1 bo bi
                obtain ⟨t, ht⟩ : ∃ t : Nat, r.cell = (t : Int) := ⟨r.cell.toNat, by omega⟩
                have HM : Hid (b ++ (⟨#[112, 97, 115, 115, 32]⟩ ++ ⟨(decL t).toArray⟩ ++ ⟨#[32]⟩ ++ bagTextT r.out ++ ⟨#[32, 47, 32]⟩ ++ bagTextT r.inn ++ ⟨#[10]⟩) = passR K x1 x2 x3 (k + 1)) := Lib.hid (by rw [← HN1.out, ruleT, ht]; rfl)
                rw [ht] at g0 hcl
                have D1 : Hid (∀ x : Wd wr, Calls Tryd.prog 26 #[.int .i64 t] (wat x) (RetV (wat x) (.string ⟨(decL t).toArray⟩))) := Lib.hid (fun x => Decimal_c t (by omega) _)
                have T1 : Hid (∀ x : Wd wr, Calls Tryd.prog 27 #[.slice b1 r.out.length d1] (wat x) (RetV (wat x) (.string (bagTextT r.out)))) := Lib.hid (fun x => by rw [← retB_bag bo]; exact specBagText_d r.out _ (Rd_I.2 ⟨b1, d1, rfl, k1.below (wat_below x)⟩))
                have T2 : Hid (∀ x : Wd wr, Calls Tryd.prog 27 #[.slice b2 r.inn.length d2] (wat x) (RetV (wat x) (.string (bagTextT r.inn)))) := Lib.hid (fun x => by rw [← retB_bag bi]; exact specBagText_d r.inn _ (Rd_I.2 ⟨b2, d2, rfl, k2.below (wat_below x)⟩))
                have q0 := wat_cell (show wr.cell? ⟨blk a3, ofs a3 + k * 3, none⟩ = some (.int .i64 (t : Int)) from g0)
                have q1 := wat_cell (show wr.cell? ⟨blk a3, ofs a3 + k * 3 + 1, none⟩ = some (.slice b1 r.out.length d1) from g1)
                have q2 := wat_cell (show wr.cell? ⟨blk a3, ofs a3 + k * 3 + 2, none⟩ = some (.slice b2 r.inn.length d2) from g2)
                have s1 := decLB_size t
                have s2 := bagText_size o8 ob
                have s3 := bagText_size i8 ib
                obtain ⟨t0, ht0⟩ : ∃ d, d = (⟨(decL t).toArray⟩ : ByteArray) := ⟨_, rfl⟩
                obtain ⟨t1, ht1⟩ : ∃ d, d = bagTextT r.out := ⟨_, rfl⟩
                obtain ⟨t2, ht2⟩ : ∃ d, d = bagTextT r.inn := ⟨_, rfl⟩
                rw [← ht0] at D1 s1 HM
                rw [← ht1] at T1 s2 HM
                rw [← ht2] at T2 s3 HM
                clear hb hr ht ht0 ht1 ht2 hxs k1 k2 o8 i8 ob ib hcl HN1 bo bi g0 g1 g2
                go_wp2
                refine wp_quiet_wd (by kernel_rfl) (by kernel_rfl) ?_
                repeat (go_big_quiet_step (first | with_reducible exact wdV (D1.out _) | with_reducible exact wdV (T1.out _) | with_reducible exact wdV (T2.out _)))
                refine wpQuiet_nil ?_
                rintro _ ⟨wq, rfl⟩
                have HB9 : Hid (Below w.heap.size w (wat wq)) := Lib.hid (bnext HBx.out (wat_below wq) (Nat.le_refl _))
                go_wp2
                first
                  | (go_roundw
                     case rel => exact ⟨k + 1, by omega, by go_num, by rw [HM.out], HB9⟩
                     case measure => simp [intOf]; omega)
                  | (refine ⟨⟨k + 1, by omega, by go_num, by rw [HM.out], HB9⟩, ?_⟩
                     simp [intOf]; omega)
              · obtain rfl : k = x3.length := by omega
                go_wp2
                go_ret
                exact ⟨rfl, HBx.out⟩
          · have hl : x.toList ≠ [] := toList_ne hz
            have hl2 : (x.toList == []) = false := by simpa using hl
            have HFE : Hid (x = freeB x2) := Lib.hid (by rw [freeB, if_neg (by rw [hx, freeS_size] at hz; intro e; rw [e] at hz; exact hz rfl), hx]; rfl)
            have HR1 : Hid (b ++ (⟨#[10, 102, 114, 101, 101, 32]⟩ ++ x ++ ⟨#[10]⟩) = passR K x1 x2 x3 0) := Lib.hid (by rw [HR0.out, HNP.out, HFE.out])
            clear hx
            go_wp2
            go_loopw [3, 7, 8] (fun s i _ wx => ∃ k : Nat, k ≤ x3.length ∧ i = .int .i64 k ∧ s = .string (passR K x1 x2 x3 k) ∧ Hid (Below w.heap.size w wx)) (fun _ i _ _ => x3.length - (intOf i).toNat)
            case atStart => exact ⟨0, Nat.zero_le _, rfl, by rw [HR1.out], HBW⟩
            case round =>
              obtain ⟨k, hk, rfl, rfl, HBx⟩ := hrel
              have f3 := (bcell1 HBx.out zp').trans P3.out
              by_cases hlt : k < x3.length
              · obtain ⟨b, hb⟩ : ∃ b, b = passR K x1 x2 x3 k := ⟨_, rfl⟩
                have hbs : b.size ≤ 1000 := by have := HSR.out k hk; rw [hb]; omega
                have hlt' : (k : Int) < x3.length := by omega
                obtain ⟨_, _, ex, hxs⟩ := Rd_PR (H3.out.below HBx.out)
                cases ex
                have g0 := hxs.c0 k hlt
                obtain ⟨b1, d1, g1, k1⟩ := hxs.c1 k hlt
                obtain ⟨b2, d2, g2, k2⟩ := hxs.c2 k hlt
                obtain ⟨o8, i8, ob, ib, bo, bi⟩ := HPS.out.bags hlt
                have hcl := HPS.out.cell k hlt
                have HN1 : Hid (b ++ ruleT (nthPR x3 k) = passR K x1 x2 x3 (k + 1)) := Lib.hid (by rw [passR, hb])
                rw [← hb]
                obtain ⟨r, hr⟩ : ∃ r, r = nthPR x3 k := ⟨_, rfl⟩
                rw [← hr] at g0 g1 k1 g2 k2 o8 i8 ob ib hcl HN1 bo bi
                obtain ⟨t, ht⟩ : ∃ t : Nat, r.cell = (t : Int) := ⟨r.cell.toNat, by omega⟩
                have HM : Hid (b ++ (⟨#[112, 97, 115, 115, 32]⟩ ++ ⟨(decL t).toArray⟩ ++ ⟨#[32]⟩ ++ bagTextT r.out ++ ⟨#[32, 47, 32]⟩ ++ bagTextT r.inn ++ ⟨#[10]⟩) = passR K x1 x2 x3 (k + 1)) := Lib.hid (by rw [← HN1.out, ruleT, ht]; rfl)
                rw [ht] at g0 hcl
                have D1 : Hid (∀ x : Wd wr, Calls Tryd.prog 26 #[.int .i64 t] (wat x) (RetV (wat x) (.string ⟨(decL t).toArray⟩))) := Lib.hid (fun x => Decimal_c t (by omega) _)
                have T1 : Hid (∀ x : Wd wr, Calls Tryd.prog 27 #[.slice b1 r.out.length d1] (wat x) (RetV (wat x) (.string (bagTextT r.out)))) := Lib.hid (fun x => by rw [← retB_bag bo]; exact specBagText_d r.out _ (Rd_I.2 ⟨b1, d1, rfl, k1.below (wat_below x)⟩))
                have T2 : Hid (∀ x : Wd wr, Calls Tryd.prog 27 #[.slice b2 r.inn.length d2] (wat x) (RetV (wat x) (.string (bagTextT r.inn)))) := Lib.hid (fun x => by rw [← retB_bag bi]; exact specBagText_d r.inn _ (Rd_I.2 ⟨b2, d2, rfl, k2.below (wat_below x)⟩))
                have q0 := wat_cell (show wr.cell? ⟨blk a3, ofs a3 + k * 3, none⟩ = some (.int .i64 (t : Int)) from g0)
                have q1 := wat_cell (show wr.cell? ⟨blk a3, ofs a3 + k * 3 + 1, none⟩ = some (.slice b1 r.out.length d1) from g1)
                have q2 := wat_cell (show wr.cell? ⟨blk a3, ofs a3 + k * 3 + 2, none⟩ = some (.slice b2 r.inn.length d2) from g2)
                have s1 := decLB_size t
                have s2 := bagText_size o8 ob
                have s3 := bagText_size i8 ib
                obtain ⟨t0, ht0⟩ : ∃ d, d = (⟨(decL t).toArray⟩ : ByteArray) := ⟨_, rfl⟩
                obtain ⟨t1, ht1⟩ : ∃ d, d = bagTextT r.out := ⟨_, rfl⟩
                obtain ⟨t2, ht2⟩ : ∃ d, d = bagTextT r.inn := ⟨_, rfl⟩
                rw [← ht0] at D1 s1 HM
                rw [← ht1] at T1 s2 HM
                rw [← ht2] at T2 s3 HM
                clear hb hr ht ht0 ht1 ht2 hxs k1 k2 o8 i8 ob ib hcl HN1 bo bi g0 g1 g2
                go_wp2
                refine wp_quiet_wd (by kernel_rfl) (by kernel_rfl) ?_
                repeat (go_big_quiet_step (first | with_reducible exact wdV (D1.out _) | with_reducible exact wdV (T1.out _) | with_reducible exact wdV (T2.out _)))
                refine wpQuiet_nil ?_
                rintro _ ⟨wq, rfl⟩
                have HB9 : Hid (Below w.heap.size w (wat wq)) := Lib.hid (bnext HBx.out (wat_below wq) (Nat.le_refl _))
                go_wp2
                first
                  | (go_roundw
                     case rel => exact ⟨k + 1, by omega, by go_num, by rw [HM.out], HB9⟩
                     case measure => simp [intOf]; omega)
                  | (refine ⟨⟨k + 1, by omega, by go_num, by rw [HM.out], HB9⟩, ?_⟩
                     simp [intOf]; omega)
              · obtain rfl : k = x3.length := by omega
                go_wp2
                go_ret
                exact ⟨rfl, HBx.out⟩
set_option maxRecDepth 100000 in
set_option maxHeartbeats 2000000 in
theorem specPassingText_d (x0 : Int) (x1 : List Int) (x2 : List Bool) (x3 : List PR) {v1 v2 v3 : Value} (w : World) (h1 : Rd Any w (dI x1) v1) (h2 : Rd Any w (dB x2) v2) (h3 : Rd Any w (dPR x3) v3) :
    Calls Tryd.prog 5 #[.agg #[.int .i64 x0, v1, v2, v3]] w (RetV w (.string (passT x0 x1 x2 x3))) := by
  obtain ⟨a1, c1, rfl, k1⟩ := Rd_I.1 h1
  obtain ⟨a2, c2, rfl, k2⟩ := Rd_B.1 h2
  have h3' := h3
  obtain ⟨a3, c3, rfl, _⟩ := Rd_PR h3
  have hb0 := below_alloc w (.cells #[.int .i64 x0, .slice a1 x1.length c1, .slice a2 x2.length c2, .slice a3 x3.length c3] 31)
  have HV := Lib.hid (l06Ok_c x0 x1 x2 x3 a1 a2 a3 c1 c2 c3 w.heap.size _ (k1.below hb0) (k2.below hb0) (h3'.below hb0) (by simp [go_sem]) (by simp [go_sem]) (by simp [go_sem]) (by simp [go_sem]))
  have HB0 := Lib.hid hb0
  have H1 := Lib.hid k1
  have H2 := Lib.hid k2
  have H3 := Lib.hid h3'
  clear h1 h2 h3 h3' k1 k2
  cases hok : okPass x0 x1 x2 x3
  · have e : passT x0 x1 x2 x3 = ⟨#[]⟩ := by rw [passT, if_neg (by rw [hok]; simp)]
    rw [e]
    rw [hok] at HV
    clear e hok hb0
    go_enter Tryd.func5, Tryd.ntmps5
    go_wp2_with fail
    refine HV.out.mono ?_
    rintro e w1 ⟨rfl, hb1⟩
    have HB1 := Lib.hid (HB0.out.trans (hb1.mono (by simp)))
    clear hb1
    go_wp2
    go_ret
    exact ⟨rfl, HB1.out⟩
  · obtain ⟨K, rfl, hps⟩ := PsOk.of hok
    have HE : Hid (passT (K : Int) x1 x2 x3 = passR K x1 x2 x3 x3.length) := Lib.hid (by rw [passT, if_pos hok]; rfl)
    rw [hok] at HV
    have HPS := Lib.hid hps
    clear hok hps hb0
    go_enter Tryd.func5, Tryd.ntmps5
    go_wp2_with fail
    refine HV.out.mono ?_
    rintro e w1 ⟨rfl, hb1⟩
    have f0 : w1.cell? ⟨w.heap.size, 0, none⟩ = some (.int .i64 (K : Int)) := by rw [bcell1 hb1 (by simp)]; simp [go_sem]
    have f1 : w1.cell? ⟨w.heap.size, 1, none⟩ = some (.slice a1 x1.length c1) := by rw [bcell1 hb1 (by simp)]; simp [go_sem]
    have f2 : w1.cell? ⟨w.heap.size, 2, none⟩ = some (.slice a2 x2.length c2) := by rw [bcell1 hb1 (by simp)]; simp [go_sem]
    have f3 : w1.cell? ⟨w.heap.size, 3, none⟩ = some (.slice a3 x3.length c3) := by rw [bcell1 hb1 (by simp)]; simp [go_sem]
    have HB1 : Hid (Below w.heap.size w w1) := Lib.hid (HB0.out.trans (hb1.mono (by simp)))
    have HC := Lib.hid (l06Text_c K x1 x2 x3 a1 a2 a3 c1 c2 c3 w.heap.size w1 HPS.out (H1.out.below HB1.out) (H2.out.below HB1.out) (H3.out.below HB1.out) f0 f1 f2 f3)
    clear hb1 f0 f1 f2 f3
    go_wp2_with fail
    refine HC.out.mono ?_
    rintro e w2 ⟨rfl, hb2⟩
    have HB2 : Hid (Below w.heap.size w w2) := Lib.hid (bnext HB1.out hb2 (Nat.le_refl _))
    clear hb2 HC
    go_wp2
    go_ret
    exact ⟨ret_strB HE.out.symm, HB2.out⟩
theorem implPassingText_d (x0 : Int) (x1 : List Int) (x2 : List Bool) (x3 : List PR) {v1 v2 v3 : Value} {F1 F2 F3 : List Nat} (w : World) (h1 : Ow w (dI x1) v1 F1) (h2 : Ow w (dB x2) v2 F2) (h3 : Ow w (dPR x3) v3 F3) (hpw : PowAt w) :
    Calls Tryd.prog 7 #[.agg #[.int .i64 x0, v1, v2, v3]] w (RetV w (.string (passT x0 x1 x2 x3))) := by
  obtain ⟨a1, c1, rfl, hc1, k1⟩ := h1.capI
  obtain ⟨a2, c2, rfl, k2⟩ := Rd_B.1 h2.rdA
  obtain ⟨a3, c3, rfl, _⟩ := Rd_PR h3.rdA
  exact implPassingText_c x0 x1 x2 x3 a1 a2 a3 c1 c2 c3 w k1 hc1 k2 h3.rdA hpw
end Go.Proofs.YtkbhdpkheincoaaDoor
