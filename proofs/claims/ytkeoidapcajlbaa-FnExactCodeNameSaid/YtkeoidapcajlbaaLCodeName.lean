/- FnExactCodeName: whatever the input, the law returns true. No condition. -/
import Derived.Test.YtkeoidapcajlbaaF
import Derived.Test.YtkeoidapcajlbaaC
namespace Go.Proofs.Ytkeoidapcajlbaa.lawCodeName
open Go.ChangeShapes Go.WideShapes Go.ChangeAt Go.RowKit
def codeS (n : Int) : ByteArray :=
  if n = 0 then ⟨#[111, 107]⟩ else
  if n = 1 then ⟨#[105, 110, 118, 97, 108, 105, 100]⟩ else
  if n = 2 then ⟨#[114, 97, 110, 103, 101]⟩ else
  if n = 3 then ⟨#[108, 105, 109, 105, 116]⟩ else
  if n = 4 then ⟨#[115, 116, 97, 116, 101]⟩ else
  if n = 5 then ⟨#[115, 121, 110, 116, 97, 120]⟩ else
  if n = 6 then ⟨#[110, 111, 116, 102, 111, 117, 110, 100]⟩ else
  if n = 7 then ⟨#[98, 117, 100, 103, 101, 116]⟩ else
  if n = 8 then ⟨#[112, 114, 111, 111, 102]⟩ else
  ⟨#[]⟩
set_option maxHeartbeats 1000000 in
theorem spec_c (n : Int) (w : World) : Calls Try.prog 15 #[.int .i64 n] w (RetV w (.string (codeS n))) := by
  by_cases h : 0 ≤ n ∧ n ≤ 8
  · have hn : n = 0 ∨ n = 1 ∨ n = 2 ∨ n = 3 ∨ n = 4 ∨ n = 5 ∨ n = 6 ∨ n = 7 ∨ n = 8 := by omega
    clear h
    rcases hn with rfl | rfl | rfl | rfl | rfl | rfl | rfl | rfl | rfl
    all_goals
      go_enter Try.func15, Try.ntmps15
      go_wp2_with fail
      refine (l00In_c _ _ _ _).mono ?_
      rintro e w' ⟨rfl, rfl⟩
      simp only [inRg, Int.reduceLE, decide_true, Bool.and_true]
      go_wp2
      go_ret
      exact ⟨rfl, by first | exact below_alloc _ _ | exact ((Below.refl _ _).alloc (Nat.le_refl _) _).alloc (by simp) _⟩
  · have hc : codeS n = ⟨#[]⟩ := by simp [codeS, show ¬ n = 0 by omega, show ¬ n = 1 by omega, show ¬ n = 2 by omega, show ¬ n = 3 by omega, show ¬ n = 4 by omega, show ¬ n = 5 by omega, show ¬ n = 6 by omega, show ¬ n = 7 by omega, show ¬ n = 8 by omega]
    rw [hc]
    have hi : inRg n 0 8 = false := by simp [inRg]; omega
    have HI := Lib.hid hi
    clear hi hc h
    go_enter Try.func15, Try.ntmps15
    go_wp2_with fail
    refine (l00In_c _ _ _ _).mono ?_
    rintro e w' ⟨rfl, rfl⟩
    rw [HI.out]
    go_wp2
    go_ret
    exact ⟨rfl, below_alloc _ _⟩
set_option maxHeartbeats 1000000 in
theorem impl_c (n : Int) (w : World) : Calls Try.prog 16 #[.int .i64 n] w (RetV w (.string (codeS n))) := by
  by_cases h : 0 ≤ n ∧ n ≤ 8
  · have hn : n = 0 ∨ n = 1 ∨ n = 2 ∨ n = 3 ∨ n = 4 ∨ n = 5 ∨ n = 6 ∨ n = 7 ∨ n = 8 := by omega
    clear h
    rcases hn with rfl | rfl | rfl | rfl | rfl | rfl | rfl | rfl | rfl
    all_goals
      go_enter Try.func16, Try.ntmps16
      go_wp2
      go_ret
      exact ⟨rfl, by first | exact below_alloc _ _ | exact ((Below.refl _ _).alloc (Nat.le_refl _) _).alloc (by simp) _⟩
  · have hc : codeS n = ⟨#[]⟩ := by simp [codeS, show ¬ n = 0 by omega, show ¬ n = 1 by omega, show ¬ n = 2 by omega, show ¬ n = 3 by omega, show ¬ n = 4 by omega, show ¬ n = 5 by omega, show ¬ n = 6 by omega, show ¬ n = 7 by omega, show ¬ n = 8 by omega]
    rw [hc]
    clear hc
    by_cases h0 : n < 0
    · go_enter Try.func16, Try.ntmps16
      go_wp2
      go_ret
      exact ⟨rfl, by first | exact below_alloc _ _ | exact ((Below.refl _ _).alloc (Nat.le_refl _) _).alloc (by simp) _⟩
    · have h1 : 9 ≤ n := by omega
      go_enter Try.func16, Try.ntmps16
      go_wp2
      go_ret
      exact ⟨rfl, by first | exact below_alloc _ _ | exact ((Below.refl _ _).alloc (Nat.le_refl _) _).alloc (by simp) _⟩
theorem walk (n : Int) (w : World) : Calls Try.prog 4 #[.int .i64 n] w (RetV w (.bool true)) := by
  go_enter Try.func4, Try.ntmps4
  go_wp2_with fail
  refine (spec_c n w).mono ?_
  rintro e w1 ⟨rfl, hb1⟩
  go_wp2_with fail
  refine (impl_c n w1).mono ?_
  rintro e w2 ⟨rfl, hb2⟩
  go_wp2
  go_ret
  exact ⟨rfl, bnext hb1 hb2 (Nat.le_refl _)⟩
set_option maxRecDepth 100000 in
theorem lifted (os : Os) (started : os.Started) (H : Type) (enc : TypeId × Value → H) :
    ReturnsInHanded {} Try.checked os 4 .any (Rows.fnExactCodeNameSpec.pre6 enc Try.prog Try.f4 Rows.fnExactCodeNameRow.domain false) (Rows.fnExactCodeNameSpec.post enc Try.prog Try.f4 false true false false) :=
  lift Try.func4 (by kernel_rfl) rfl rfl (by kernel_rfl : Try.prog.underlying 4 = some .bool) (by kernel_rfl) (fun ds h => by match ds, h with | [d0], _ => rfl) started
    (ChangeSpec.witness6 (enc := enc) (C := Try.checked) false ⟨#[], #[.int .i64 0], []⟩ 8 (by kernel_rfl) (by kernel_rfl) (by kernel_rfl) (by kernel_rfl))
    (fun W base args ds p hval hA => by
      rw [Try.params4] at hA hval
      obtain ⟨v0, vs0, d0, ds0, p0, q0, hargs0, rfl, rfl, g0, r0⟩ := ChangeShapes.trodAll_cons hA
      obtain ⟨hnil, rfl, rfl⟩ := ChangeShapes.trodAll_nil r0
      obtain rfl : args = #[v0] := by cases args; simp_all
      obtain ⟨x0, rfl, rfl, rfl, wx0⟩ := open_int (by kernel_rfl : Try.prog.underlying 2 = some (.int .i64)) (hval 0 _ _ rfl rfl) g0
      exact walk x0 W)
theorem proved : Rows.FnExactCodeNameSaid :=
  OpenClaim.holds_of_wide 4 Try.f4 rfl rfl rfl rfl rfl rfl rfl ⟨rfl, rfl, rfl, rfl, rfl⟩ rfl rfl rfl rfl rfl (by kernel_rfl) Try.func4 (by kernel_rfl)
    (of_decide_eq_true (by kernel_rfl)) (by unfold Func.isWrapper; first | (rw [if_pos (by decide +kernel)]; kernel_rfl) | (rw [if_neg (by decide +kernel)]; exact ⟨rfl, rfl⟩))
    (fun os started H enc _ => lifted os started H enc)
end Go.Proofs.Ytkeoidapcajlbaa.lawCodeName
