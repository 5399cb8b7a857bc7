/- All bags of a size, all parts of a bag: the program's functions. -/
import Derived.Test.YthfkhallnbcopaaBS
namespace Go.Proofs.Ythfkhallnbcopaa
open Go.RowKit

set_option maxHeartbeats 2000000 in
theorem implBagsOfSize_d (kinds size : Int) (w : World) :
    Calls Try.prog 20 #[.int .i64 kinds, .int .i64 size] w (RetLists w (bagsOfSizeS kinds size)) := by
  cases h1 : inRg kinds 1 8
  · have e : bagsOfSizeS kinds size = ([], 2) := by simp [bagsOfSizeS, h1]
    rw [e]
    have H1 := Lib.hid h1
    clear h1 e
    go_enter Try.func20, Try.ntmps20
    go_wp2_with fail
    refine (inRange_c _ _ _ _).mono ?_
    rintro e w' ⟨rfl, rfl⟩
    rw [H1.out]
    go_wp2
    go_ret2
    exact RetDC.none _ _ _ (below_alloc _ _)
  · cases h2 : inRg size 0 1000
    · have e : bagsOfSizeS kinds size = ([], 2) := by simp [bagsOfSizeS, h2]
      rw [e]
      have H1 := Lib.hid h1
      have H2 := Lib.hid h2
      clear h1 h2 e
      go_enter Try.func20, Try.ntmps20
      go_wp2_with fail
      refine (inRange_c _ _ _ _).mono ?_
      rintro e w' ⟨rfl, rfl⟩
      rw [H1.out]
      go_wp2_with fail
      refine (inRange_c _ _ _ _).mono ?_
      rintro e w' ⟨rfl, rfl⟩
      rw [H2.out]
      go_wp2
      go_ret2
      exact RetDC.none _ _ _ (below_alloc _ _)
    · have b1 : 1 ≤ kinds ∧ kinds ≤ 8 := by simpa [inRg] using h1
      have b2 : 0 ≤ size ∧ size ≤ 1000 := by simpa [inRg] using h2
      obtain ⟨K, rfl⟩ : ∃ K : Nat, kinds = K := ⟨kinds.toNat, by omega⟩
      obtain ⟨l, rfl⟩ : ∃ l : Nat, size = l := ⟨size.toNat, by omega⟩
      have e : bagsOfSizeS K l = lim (ofSz (K - 1) l) := by simp [bagsOfSizeS, h1, h2]
      rw [e]
      have H1 := Lib.hid h1
      have H2 := Lib.hid h2
      clear h1 h2 e
      have hmk := make_run1 (P := Try.prog) tabI rfl (by decide) K (by omega)
      go_enter Try.func20, Try.ntmps20
      go_upto_region 3 with (go_at_call 83; refine (inRange_c _ _ _ _).mono ?_; rintro e w' ⟨rfl, rfl⟩; (first | rw [H1.out] | rw [H2.out]))
      go_cut [6, 7] (fun s6 s7 wx => Init (w.alloc (.cells #[.int .i64 K] 2)) K s6 s7 wx)
      case first =>
        go_region
        all_goals
          go_wp2_with fail
          go_meet
        all_goals first
          | (refine ⟨_, _, w.heap.size + 1, w.heap.size + 1 + 1, rfl, rfl, ?_, ?_, ?_, ?_, ?_, ?_, ?_, ?_, ?_⟩ <;> (first | (simp [go_sem]; done) | omega | (simp; omega) | (intro i hi; simp [go_sem, hi]; done) | (intro i; simp [go_sem]; done) | ((repeat (first | exact Below.refl _ _ | refine Below.drew ?_ | refine Below.alloc ?_ (by simp <;> omega) _)); done)))
          | (refine ⟨_, _, w.heap.size + 1, w.heap.size + 1 + 1 + 1, rfl, rfl, ?_, ?_, ?_, ?_, ?_, ?_, ?_, ?_, ?_⟩ <;> (first | (simp [go_sem]; done) | omega | (simp; omega) | (intro i hi; simp [go_sem, hi]; done) | (intro i; simp [go_sem]; done) | ((repeat (first | exact Below.refl _ _ | refine Below.drew ?_ | refine Below.alloc ?_ (by simp <;> omega) _)); done)))
          | (refine ⟨_, _, w.heap.size + 1, w.heap.size + 1 + 1 + 1 + 1, rfl, rfl, ?_, ?_, ?_, ?_, ?_, ?_, ?_, ?_, ?_⟩ <;> (first | (simp [go_sem]; done) | omega | (simp; omega) | (intro i hi; simp [go_sem, hi]; done) | (intro i; simp [go_sem]; done) | ((repeat (first | exact Below.refl _ _ | refine Below.drew ?_ | refine Below.alloc ?_ (by simp <;> omega) _)); done)))
          | (refine ⟨_, _, w.heap.size + 1 + 1, w.heap.size + 1, rfl, rfl, ?_, ?_, ?_, ?_, ?_, ?_, ?_, ?_, ?_⟩ <;> (first | (simp [go_sem]; done) | omega | (simp; omega) | (intro i hi; simp [go_sem, hi]; done) | (intro i; simp [go_sem]; done) | ((repeat (first | exact Below.refl _ _ | refine Below.drew ?_ | refine Below.alloc ?_ (by simp <;> omega) _)); done)))
          | (refine ⟨_, _, w.heap.size + 1 + 1, w.heap.size + 1 + 1 + 1, rfl, rfl, ?_, ?_, ?_, ?_, ?_, ?_, ?_, ?_, ?_⟩ <;> (first | (simp [go_sem]; done) | omega | (simp; omega) | (intro i hi; simp [go_sem, hi]; done) | (intro i; simp [go_sem]; done) | ((repeat (first | exact Below.refl _ _ | refine Below.drew ?_ | refine Below.alloc ?_ (by simp <;> omega) _)); done)))
          | (refine ⟨_, _, w.heap.size + 1 + 1, w.heap.size + 1 + 1 + 1 + 1, rfl, rfl, ?_, ?_, ?_, ?_, ?_, ?_, ?_, ?_, ?_⟩ <;> (first | (simp [go_sem]; done) | omega | (simp; omega) | (intro i hi; simp [go_sem, hi]; done) | (intro i; simp [go_sem]; done) | ((repeat (first | exact Below.refl _ _ | refine Below.drew ?_ | refine Below.alloc ?_ (by simp <;> omega) _)); done)))
          | (refine ⟨_, _, w.heap.size + 1 + 1 + 1, w.heap.size + 1, rfl, rfl, ?_, ?_, ?_, ?_, ?_, ?_, ?_, ?_, ?_⟩ <;> (first | (simp [go_sem]; done) | omega | (simp; omega) | (intro i hi; simp [go_sem, hi]; done) | (intro i; simp [go_sem]; done) | ((repeat (first | exact Below.refl _ _ | refine Below.drew ?_ | refine Below.alloc ?_ (by simp <;> omega) _)); done)))
          | (refine ⟨_, _, w.heap.size + 1 + 1 + 1, w.heap.size + 1 + 1, rfl, rfl, ?_, ?_, ?_, ?_, ?_, ?_, ?_, ?_, ?_⟩ <;> (first | (simp [go_sem]; done) | omega | (simp; omega) | (intro i hi; simp [go_sem, hi]; done) | (intro i; simp [go_sem]; done) | ((repeat (first | exact Below.refl _ _ | refine Below.drew ?_ | refine Below.alloc ?_ (by simp <;> omega) _)); done)))
          | (refine ⟨_, _, w.heap.size + 1 + 1 + 1, w.heap.size + 1 + 1 + 1 + 1, rfl, rfl, ?_, ?_, ?_, ?_, ?_, ?_, ?_, ?_, ?_⟩ <;> (first | (simp [go_sem]; done) | omega | (simp; omega) | (intro i hi; simp [go_sem, hi]; done) | (intro i; simp [go_sem]; done) | ((repeat (first | exact Below.refl _ _ | refine Below.drew ?_ | refine Below.alloc ?_ (by simp <;> omega) _)); done)))
          | (refine ⟨_, _, w.heap.size + 1 + 1 + 1 + 1, w.heap.size + 1, rfl, rfl, ?_, ?_, ?_, ?_, ?_, ?_, ?_, ?_, ?_⟩ <;> (first | (simp [go_sem]; done) | omega | (simp; omega) | (intro i hi; simp [go_sem, hi]; done) | (intro i; simp [go_sem]; done) | ((repeat (first | exact Below.refl _ _ | refine Below.drew ?_ | refine Below.alloc ?_ (by simp <;> omega) _)); done)))
          | (refine ⟨_, _, w.heap.size + 1 + 1 + 1 + 1, w.heap.size + 1 + 1, rfl, rfl, ?_, ?_, ?_, ?_, ?_, ?_, ?_, ?_, ?_⟩ <;> (first | (simp [go_sem]; done) | omega | (simp; omega) | (intro i hi; simp [go_sem, hi]; done) | (intro i; simp [go_sem]; done) | ((repeat (first | exact Below.refl _ _ | refine Below.drew ?_ | refine Below.alloc ?_ (by simp <;> omega) _)); done)))
          | (refine ⟨_, _, w.heap.size + 1 + 1 + 1 + 1, w.heap.size + 1 + 1 + 1, rfl, rfl, ?_, ?_, ?_, ?_, ?_, ?_, ?_, ?_, ?_⟩ <;> (first | (simp [go_sem]; done) | omega | (simp; omega) | (intro i hi; simp [go_sem, hi]; done) | (intro i; simp [go_sem]; done) | ((repeat (first | exact Below.refl _ _ | refine Below.drew ?_ | refine Below.alloc ?_ (by simp <;> omega) _)); done)))
      case rest =>
        obtain ⟨po, pb, gl, gb, rfl, rfl, h1, h2, h3, h4, h5, h6, ⟨o1, o2, o3, o4⟩, ⟨k1, k2, k3, k4, k5, k6, k7⟩, hb⟩ := hcut
        have hk0 : wc.cell? ⟨w.heap.size, 0, none⟩ = some (.int .i64 K) := by rw [bcell1 hb (by simp)]; simp [go_sem]
        simp only [World.size_alloc] at o1 o2 o3 o4
        have z1 := World.block_lt_of_cell? wc _ h1
        have z2 := World.block_lt_of_cell? wc _ h2
        have z3 := World.block_lt_of_cell? wc _ h3
        have z0 := World.block_lt_of_cell? wc _ hk0
        simp only at z1 z2 z3 z0
        have hE : Enm (wc.alloc (.cells #[.func (.func 84) #[] #[.pointer (some ⟨w.heap.size, 0, none⟩), .pointer (some ⟨pb, 0, none⟩), .pointer (some ⟨po, 0, none⟩), .pointer (some ⟨wc.heap.size, 0, none⟩)]] 32)) w.heap.size
            [(w.heap.size, .int .i64 K), (pb, .slice (some ⟨gb, 0, none⟩) K K), (po, .pointer (some ⟨gl, 0, none⟩)), (wc.heap.size, .func (.func 84) #[] #[.pointer (some ⟨w.heap.size, 0, none⟩), .pointer (some ⟨pb, 0, none⟩), .pointer (some ⟨po, 0, none⟩), .pointer (some ⟨wc.heap.size, 0, none⟩)])]
            gb gl (List.replicate K 0) [] [] 22 := by
          have hA := below_alloc wc (.cells #[.func (.func 84) #[] #[.pointer (some ⟨w.heap.size, 0, none⟩), .pointer (some ⟨pb, 0, none⟩), .pointer (some ⟨po, 0, none⟩), .pointer (some ⟨wc.heap.size, 0, none⟩)]] 32)
          refine Init.enm (by rw [bcell1 hA z3]; exact h3) (by rw [hA.frozen (p := ⟨gl, 0, none⟩) z3]; exact h4) (fun i hi => by rw [bcell1 hA k1]; exact h5 i hi) (fun i => by rw [hA.frozen (p := ⟨gb, i, none⟩) k1]; exact h6 i) (by simp; omega) k7 ⟨by omega, by omega, by simp; omega⟩ ?_
          intro p v hp
          simp only [List.mem_cons, Prod.mk.injEq, List.not_mem_nil, or_false] at hp
          rcases hp with ⟨rfl, rfl⟩ | ⟨rfl, rfl⟩ | ⟨rfl, rfl⟩ | ⟨rfl, rfl⟩
          · exact ⟨by rw [bcell1 hA z0]; exact hk0, by omega, by omega⟩
          · exact ⟨by rw [bcell1 hA z2]; exact h2, by omega, by omega⟩
          · exact ⟨by rw [bcell1 hA z1]; exact h1, by omega, by omega⟩
          · exact ⟨by simp [go_sem], by omega, by omega⟩
        have hcall := bagsFrom_c w.heap.size gb gl w.heap.size pb po wc.heap.size K _ rfl (by omega) (K - 1) 0 l (List.replicate K 0) [] [] _ 0 l rfl rfl (by omega) (by omega) (by simp) (by simp) hE
        have HCL := Lib.hid hcall
        have hb0 : Below w.heap.size w wc := bnext (below_alloc _ _) hb (Nat.le_refl _)
        have HB := Lib.hid hb0
        have HE := Lib.hid hE
        clear hE hcall hb0 hb h1 h2 h3 h4 h5 h6 hk0
        go_wp2_with fail
        refine HCL.out.mono ?_
        rintro e w1 ⟨he, bs', G', hE', -, -, hc', hm'⟩
        have hlen : (capA [] ((ofSz (K - 1) l).map ((List.replicate K (0 : Int)).take 0 ++ ·))) = (ofSz (K - 1) l).take 2001 := by simp [capA]
        rw [hlen] at he hE'
        subst he
        have o5 := (hE'.caps po _ (.tail _ (.tail _ (.head _)))).1
        have hb1 : Below w.heap.size w w1 := (HB.out.alloc (by have := HB.out.size; omega) _).trans (hc'.below (by have := HB.out.size; simp; omega) (fun g hg => by simp at hg; rcases hg with rfl | rfl <;> omega))
        have hres := result_c w.heap.size gl _ G' w w1 hE'.box hb1 (Nat.le_refl _) (by simp; omega)
        rw [lim_take] at hres
        have HR := Lib.hid hres
        clear hE' hc' hm' hb1 hres hlen
        go_wp2_with fail
        refine HR.out.mono ?_
        rintro e w2 ⟨v, F, rfl, h1, h2, h3, h4⟩
        have HX := Lib.hid (show RetLists w (lim (ofSz (K - 1) l)) _ w2 from ⟨v, F, rfl, h1, h2, h3, h4⟩)
        clear h1 h2 h3 h4
        go_wp2
        go_ret2
        exact HX.out
end Go.Proofs.Ythfkhallnbcopaa
