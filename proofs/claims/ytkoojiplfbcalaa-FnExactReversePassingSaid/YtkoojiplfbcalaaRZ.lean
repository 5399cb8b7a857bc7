/- ReversePassing: the forms for the law. Written by mkrv2.py. -/
import Derived.Test.YtkoojiplfbcalaaRW
import Derived.Test.YtkoojiplfbcalaaRX
namespace Go.Proofs.Ytkoojiplfbcalaa
open Go.RowKit

theorem prs_cnt : ∀ (rs : List PR) (m : Nat), (∀ r, r ∈ rs → r.out.length ≤ m ∧ r.inn.length ≤ m) → cnt (dPR rs) ≤ rs.length * (1 + 2 * m)
  | [], m, _ => by simp [dPR, cnt, cntL]
  | c :: cs, m, h => by
    have h1 := prs_cnt cs m fun x hx => h x (by simp [hx])
    have h2 := h c (by simp)
    have h3 : cnt (dPR (c :: cs)) = 1 + (c.out.length + (c.inn.length + cnt (dPR cs))) := by
      simp only [dPR, cnt, List.flatMap_cons, PR.ds, List.cons_append, List.nil_append, cntL, cntL_ints, dI] <;> omega
    rw [h3]
    simp only [List.length_cons, Nat.add_mul]
    omega
theorem rev_small (x0 : Int) (x1 : List Int) (x2 : List Bool) (x3 : List PR) : (revS x0 x1 x2 x3).1.2.1.length ≤ 4 ∧ (revS x0 x1 x2 x3).1.2.2.1.length ≤ 8 ∧ cnt (dPR (revS x0 x1 x2 x3).1.2.2.2) ≤ 1000 := by
  unfold revS
  by_cases h : okPass x0 x1 x2 x3 = true
  · rw [if_pos h]
    obtain ⟨K, hK, hps⟩ := PsOk.of h
    split
    · refine ⟨hps.p4, by have := hps.free; have := hps.k8; show x2.length ≤ 8; omega, ?_⟩
      have h1 := prs_cnt (x3.map revPR) 8 (fun r hr => by
        obtain ⟨q, hq, rfl⟩ := List.mem_map.1 hr
        obtain ⟨i, hi, rfl⟩ := List.getElem_of_mem hq
        have o1 := (hps.out i hi).2
        have o2 := (hps.inn i hi).2
        rw [nthPR_lt hi] at o1 o2
        have := hps.k8
        simp only [revPR]; omega)
      have h8 := hps.r8
      rw [List.length_map] at h1
      show cnt (dPR (x3.map revPR)) ≤ 1000
      omega
    · simp [zPsn, dPR, cnt, cntL]
  · rw [if_neg h]
    simp [zPsn, dPR, cnt, cntL]
theorem rev_cnt1 (x0 : Int) (x1 : List Int) (x2 : List Bool) (x3 : List PR) : cnt (dI (revS x0 x1 x2 x3).1.2.1) ≤ 16777216 := by
  rw [cnt_dI]; have := rev_small x0 x1 x2 x3; omega
theorem rev_cnt2 (x0 : Int) (x1 : List Int) (x2 : List Bool) (x3 : List PR) : cnt (dB (revS x0 x1 x2 x3).1.2.2.1) ≤ 16777216 := by
  have := rev_small x0 x1 x2 x3
  have h : cnt (dB (revS x0 x1 x2 x3).1.2.2.1) = (revS x0 x1 x2 x3).1.2.2.1.length := cntL_bools _
  omega
theorem rev_cnt3 (x0 : Int) (x1 : List Int) (x2 : List Bool) (x3 : List PR) : cnt (dPR (revS x0 x1 x2 x3).1.2.2.2) ≤ 16777216 := by
  have := rev_small x0 x1 x2 x3; omega
theorem implReversePassing_d (x0 : Int) (x1 : List Int) (x2 : List Bool) (x3 : List PR) {v1 v2 v3 : Value} {F1 F2 F3 : List Nat} (w : World) (h1 : Ow w (dI x1) v1 F1) (h2 : Ow w (dB x2) v2 F2) (h3 : Ow w (dPR x3) v3 F3) :
    Calls Try.prog 49 #[.agg #[.int .i64 x0, v1, v2, v3]] w (RetAC w [.i (revS x0 x1 x2 x3).1.1, dI (revS x0 x1 x2 x3).1.2.1, dB (revS x0 x1 x2 x3).1.2.2.1, dPR (revS x0 x1 x2 x3).1.2.2.2] (revS x0 x1 x2 x3).2) := by
  obtain ⟨a1, c1, rfl, hc, k1'⟩ := h1.capI
  obtain ⟨a2, c2, rfl, k2'⟩ := Rd_B.1 h2.rdA
  have h3' := h3.rdA
  obtain ⟨a3, c3, rfl, _⟩ := Rd_PR h3'
  exact implReversePassing_c x0 x1 x2 x3 a1 a2 a3 c1 c2 c3 w k1' hc k2' h3'
theorem specReversePassing_d (x0 : Int) (x1 : List Int) (x2 : List Bool) (x3 : List PR) {v1 v2 v3 : Value} (w : World) (h1 : Rd Any w (dI x1) v1) (h2 : Rd Any w (dB x2) v2) (h3 : Rd Any w (dPR x3) v3) :
    Calls Try.prog 48 #[.agg #[.int .i64 x0, v1, v2, v3]] w (RetAC w [.i (revS x0 x1 x2 x3).1.1, dI (revS x0 x1 x2 x3).1.2.1, dB (revS x0 x1 x2 x3).1.2.2.1, dPR (revS x0 x1 x2 x3).1.2.2.2] (revS x0 x1 x2 x3).2) := by
  obtain ⟨a1, c1, rfl, k1'⟩ := Rd_I.1 h1
  obtain ⟨a2, c2, rfl, k2'⟩ := Rd_B.1 h2
  have h3' := h3
  obtain ⟨a3, c3, rfl, _⟩ := Rd_PR h3'
  exact specReversePassing_c x0 x1 x2 x3 a1 a2 a3 c1 c2 c3 w k1' k2' h3'
end Go.Proofs.Ytkoojiplfbcalaa
