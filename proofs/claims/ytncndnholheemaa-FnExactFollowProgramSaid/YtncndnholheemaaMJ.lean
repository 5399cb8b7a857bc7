/- Systems of programs: how much there is of them. -/
import Derived.Test.YtncndnholheemaaMI
namespace Go.Proofs.Ytncndnholheemaa
open Go.RowKit

theorem cntL_rulK (K : Nat) (rank : Int) (a b c d : List Int) : cntL (rulK K rank a b c d).ds = 3 + 5 * K := by
  simp [Rul.ds, rulK, cntL, cnt_dI, bagK_len, cnt, dInn]
  omega
def allK (K : Nat) (rs : List Rul) : Prop := ∀ r, r ∈ rs → ∃ rank a b c d, r = rulK K rank a b c d
theorem ordRules_allK (R : Nat) (os : List Ord) (mode : Int) (K i : Nat) : allK K (ordRules R os mode K i) := by
  intro r hr
  unfold ordRules at hr
  repeat' split at hr
  all_goals simp only [List.mem_cons, List.not_mem_nil, or_false] at hr
  all_goals (first
    | exact hr.elim
    | (subst hr; exact ⟨_, _, _, _, _, rfl⟩)
    | (rcases hr with rfl | rfl <;> exact ⟨_, _, _, _, _, rfl⟩)
    | (rcases hr with rfl | rfl | rfl | rfl <;> exact ⟨_, _, _, _, _, rfl⟩))
theorem rulesTo_allK (R : Nat) (os : List Ord) (mode : Int) (K : Nat) : ∀ i, allK K (rulesTo R os mode K i)
  | 0 => fun r hr => by simp [rulesTo] at hr
  | i + 1 => fun r hr => by
    rw [rulesTo, List.mem_append] at hr
    rcases hr with h | h
    · exact rulesTo_allK R os mode K i r h
    · exact ordRules_allK R os mode K i r h
theorem rulesS_allK (R : Nat) (os : List Ord) (mode : Int) : allK (kindsN R os mode) (rulesS R os mode) := fun r hr => by
  unfold rulesS at hr
  rw [List.mem_append] at hr
  rcases hr with h | h
  · exact rulesTo_allK _ _ _ _ _ r h
  · split at h
    · simp only [List.mem_cons, List.not_mem_nil, or_false] at h
      subst h; exact ⟨_, _, _, _, _, rfl⟩
    · cases h
theorem ruls_cnt : ∀ (rs : List Rul) (m : Nat), (∀ r, r ∈ rs → cntL r.ds ≤ m) → cnt (dRul rs) ≤ rs.length * m
  | [], _, _ => by simp [dRul, cnt, cntL]
  | r :: rs, m, h => by
    have ih := ruls_cnt rs m (fun x hx => h x (by simp [hx]))
    have h1 := h r (by simp)
    have e : cnt (dRul (r :: rs)) = cntL r.ds + cnt (dRul rs) := by simp [dRul, cnt, cntL_app]
    rw [e, List.length_cons, Nat.succ_mul]
    omega
theorem progSys_cnt1 (R : Int) (os : List Ord) (mode : Int) : cnt (dI (progSysS R os mode).1.2.1) ≤ 16777216 := by
  rw [cnt_dI]
  unfold progSysS
  split <;> simp [zSys]
theorem progSys_cnt2 (R : Int) (os : List Ord) (mode : Int) : cnt (dRul (progSysS R os mode).1.2.2) ≤ 16777216 := by
  unfold progSysS
  split
  · rename_i h
    obtain ⟨K, rfl, hp, _, _, _, h1, h2⟩ := modeCode_zero h
    have h3 := ruls_cnt (rulesS K os mode) 43 (fun r hr => by
      obtain ⟨rank, a, b, c, d, rfl⟩ := rulesS_allK K os mode r hr
      rw [cntL_rulK]; omega)
    have h4 : (rulesS K os mode).length * 43 ≤ 8 * 43 := Nat.mul_le_mul h2 (Nat.le_refl _)
    show cnt (dRul (rulesS ((K : Int).toNat) os mode)) ≤ _
    rw [Int.toNat_natCast]
    omega
  · simp [zSys, dRul, cnt, cntL]
end Go.Proofs.Ytncndnholheemaa
