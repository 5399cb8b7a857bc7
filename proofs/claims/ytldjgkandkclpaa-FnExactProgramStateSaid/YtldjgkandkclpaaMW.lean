/- States of programs: how much there is of them. -/
import Derived.Test.YtldjgkandkclpaaMV
namespace Go.Proofs.Ytldjgkandkclpaa
open Go.RowKit

theorem progState_cnt0 (R : Int) (os : List Ord) (mode pc : Int) (regs : List Int) : cnt (dB (progStateS R os mode pc regs).1.1) ≤ 16777216 := by
  rw [cnt_dB]
  unfold progStateS
  split <;> simp [zSta]
theorem progState_cnt1 (R : Int) (os : List Ord) (mode pc : Int) (regs : List Int) : cnt (dII (progStateS R os mode pc regs).1.2.1) ≤ 16777216 := by
  unfold progStateS
  split
  · rename_i h
    obtain ⟨K, rfl, hp, _, _, hcf, h1, h2⟩ := modeCode_zero h
    obtain ⟨_, _, hrl⟩ := confOk_ok hcf
    have h3 := hp.r3
    have hl : (stateBag (kindsN ((K : Int).toNat) os mode) ((K : Int).toNat) pc regs).length ≤ 16 := by
      rw [Int.toNat_natCast, stateBag, List.length_set, List.length_append, List.length_replicate]; omega
    have e : cnt (dII [stateBag (kindsN ((K : Int).toNat) os mode) ((K : Int).toNat) pc regs]) = (stateBag (kindsN ((K : Int).toNat) os mode) ((K : Int).toNat) pc regs).length := by
      simp [dII, cnt, cntL, cnt_dI]
    show cnt (dII [_]) ≤ _
    rw [e]
    omega
  · simp [zSta, dII, cnt, cntL]
theorem progState_cnt2 (R : Int) (os : List Ord) (mode pc : Int) (regs : List Int) : cnt (dI (progStateS R os mode pc regs).1.2.2) ≤ 16777216 := by
  rw [cnt_dI]
  unfold progStateS
  split
  · rename_i h
    obtain ⟨K, rfl, hp, _, _, hcf, h1, h2⟩ := modeCode_zero h
    simp
    omega
  · simp [zSta]
end Go.Proofs.Ytldjgkandkclpaa
