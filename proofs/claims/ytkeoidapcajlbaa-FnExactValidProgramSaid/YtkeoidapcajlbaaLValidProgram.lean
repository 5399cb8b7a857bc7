/- FnExactValidProgram: whatever the input, the law returns true. No condition. -/
import Derived.Test.YtkeoidapcajlbaaW
import Derived.Test.YtkeoidapcajlbaaS
import Derived.Deep.RegionHeld3
namespace Go.Proofs.Ytkeoidapcajlbaa.lawValidProgram
open Go.ChangeShapes Go.WideShapes Go.ChangeAt Go.RowKit
set_option maxHeartbeats 4000000 in
set_option maxRecDepth 100000 in
theorem walk (R : Int) (a : Option Addr) (n c : Nat) (w : World) (hm : n ≤ maxLen) (hx0 : ∃ os : List Ord, os.length = n ∧ SlO (· < w.heap.size) w a os) :
    Calls Try.prog 14 #[.agg #[.int .i64 R, .slice a n c]] w (RetV w (.bool true)) := by
  obtain ⟨os, rfl, hx⟩ := hx0
  have HC := fun (wx : World) => szProgram_c R a os.length c 1048576 wx hm (by omega) (by omega)
  by_cases hq : os.length ≤ 1048576
  · have e : (if (1048576 : Int) < os.length then (-1 : Int) else 1048576 - os.length) = 1048576 - os.length := if_neg (by omega)
    rw [e] at HC
    have HS := Lib.hid HC
    clear HC e
    have hB := Below.refl w.heap.size w
    go_enter Try.func14, Try.ntmps14
    go_wp2_with fail
    refine (HS.out _).mono ?_
    rintro e w1 ⟨rfl, hb1⟩
    have hs1 := bnext (below_alloc _ _) hb1 (Nat.le_refl _)
    have bx0 : w1.cell? ⟨w.heap.size, 0, none⟩ = some (.int .i64 R) := by rw [hb1.cell (p := ⟨w.heap.size, 0, none⟩) (by simp)]; simp [go_sem]
    have bx1 : w1.cell? ⟨w.heap.size, 1, none⟩ = some (.slice a os.length c) := by rw [hb1.cell (p := ⟨w.heap.size, 1, none⟩) (by simp)]; simp [go_sem]
    have hz1 : w.heap.size < w1.heap.size := by have := hb1.size; simp at this; omega
    replace hB := hB.trans hs1
    clear hb1 hs1
    go_wp2_with fail
    refine (toProgram_c R _ a c os w1 (hx.below hB) (by omega)).mono ?_
    rintro e w2 ⟨v2, F2, rfl, hb2, ho2, hn2, hl2⟩
    obtain ⟨a2, c2, rfl⟩ := ho2.valO
    have hy2 := ho2.argO.2
    replace bx0 := (bcell1 hb2 hz1).trans bx0
    replace bx1 := (bcell1 hb2 hz1).trans bx1
    have hz2 := hb2.size
    replace hB := bnext hB hb2 (Nat.le_refl _)
    go_wp2_with fail
    refine (specValidProgram_c R _ _ _ os w2 hy2).mono ?_
    rintro e w3 ⟨rfl, hb3⟩
    replace bx0 := (bcell1 hb3 (by omega)).trans bx0
    replace bx1 := (bcell1 hb3 (by omega)).trans bx1
    have hz3 := hb3.size
    replace hB := bnext hB hb3 (Nat.le_refl _)
    go_wp2_with fail
    refine (toProgram_c R _ a c os w3 (hx.below hB) (by omega)).mono ?_
    rintro e w4 ⟨v4, F4, rfl, hb4, ho4, hn4, hl4⟩
    obtain ⟨a4, c4, rfl⟩ := ho4.valO
    have hy4 := ho4.argO.2
    replace bx0 := (bcell1 hb4 (by omega)).trans bx0
    replace bx1 := (bcell1 hb4 (by omega)).trans bx1
    have hz4 := hb4.size
    replace hB := bnext hB hb4 (Nat.le_refl _)
    go_wp2_with fail
    refine (implValidProgram_c R _ _ _ os _ (hy4.below (below_alloc _ _))).mono ?_
    rintro e w5 ⟨rfl, hb5⟩
    have hs5 := bnext (below_alloc _ _) hb5 (Nat.le_refl _)
    have cx0 : w5.cell? ⟨w4.heap.size, 0, none⟩ = some (.int .i64 R) := by rw [hb5.cell (p := ⟨w4.heap.size, 0, none⟩) (by simp)]; simp [go_sem]
    have cx1 : w5.cell? ⟨w4.heap.size, 1, none⟩ = some (.slice a4 os.length c4) := by rw [hb5.cell (p := ⟨w4.heap.size, 1, none⟩) (by simp)]; simp [go_sem]
    replace bx0 := (bcell1 hs5 (by omega)).trans bx0
    replace bx1 := (bcell1 hs5 (by omega)).trans bx1
    have hz5 : w4.heap.size < w5.heap.size := by have := hb5.size; simp at this; omega
    replace hB := bnext hB hs5 (Nat.le_refl _)
    replace hy4 := hy4.below hs5
    clear hb5 hs5 hy2 hb2 hb3 hb4 ho2 ho4
    go_wp2_with fail
    go_region_held3 (fun wx => wx.cell? ⟨w.heap.size, 0, none⟩ = some (.int .i64 R) ∧ wx.cell? ⟨w.heap.size, 1, none⟩ = some (.slice a os.length c) ∧ wx.cell? ⟨w4.heap.size, 0, none⟩ = some (.int .i64 R) ∧ wx.cell? ⟨w4.heap.size, 1, none⟩ = some (.slice a4 os.length c4))
      (first | go_keep | (refine ⟨?_, ?_, ?_, ?_⟩ <;> (rw [bcell1 hb6 (by show _ < w5.heap.size; omega)]; assumption)) | (have h6 : w5.heap.size ≤ w6.heap.size := hb6.size; go_split_ands; refine ⟨?_, ?_, ?_, ?_⟩ <;> (rw [bcell1 hb7 (by omega)]; assumption)))
      (first
        | (go_at_call 27; refine (toProgram_c R _ a c os _ (hx.below hB.drew) (by omega)).mono ?_; rintro e w6 ⟨v6, F6, rfl, hb6, ho6, hn6, hl6⟩; obtain ⟨a6, c6, rfl⟩ := ho6.valO)
        | (go_at_call 29; refine (eqProgram_c R _ _ _ _ os _ (hy4.below ((Below.refl w5.heap.size w5).drew.trans hb6)) ho6.argO.2).mono ?_; rintro e w7 ⟨rfl, hb7⟩))
    all_goals
      go_wp2
      go_ret
      exact ⟨rfl, (hB.trans (((Below.refl w5.heap.size w5).drew.trans hb6).mono (by omega))).trans (hb7.mono (by have h6 := hb6.size; show w.heap.size ≤ w6.heap.size; have h5 : w5.heap.size ≤ w6.heap.size := h6; omega))⟩
  · have e : (if (1048576 : Int) < os.length then (-1 : Int) else 1048576 - os.length) = -1 := if_pos (by omega)
    rw [e] at HC
    have HS := Lib.hid HC
    clear HC e
    go_enter Try.func14, Try.ntmps14
    go_wp2_with fail
    refine (HS.out _).mono ?_
    rintro e w1 ⟨rfl, hb1⟩
    go_wp2
    go_ret
    exact ⟨rfl, bnext (below_alloc _ _) hb1 (Nat.le_refl _)⟩
set_option maxRecDepth 100000 in
theorem lifted (os : Os) (started : os.Started) (H : Type) (enc : TypeId × Value → H) :
    ReturnsInHanded {} Try.checked os 14 .any (Rows.fnExactValidProgramSpec.pre6 enc Try.prog Try.f14 Rows.fnExactValidProgramRow.domain false) (Rows.fnExactValidProgramSpec.post enc Try.prog Try.f14 false true false false) :=
  lift Try.func14 (by kernel_rfl) rfl rfl (by kernel_rfl : Try.prog.underlying 4 = some .bool) (by kernel_rfl) (fun ds h => by match ds, h with | [d0], _ => rfl) started
    (ChangeSpec.witness6 (enc := enc) (C := Try.checked) false ⟨#[], #[.agg #[.int .i64 0, .slice none 0 0]], []⟩ 8 (by kernel_rfl) (by kernel_rfl) (by kernel_rfl) (by kernel_rfl))
    (fun W base args ds p hval hA => by
      rw [Try.params14] at hA hval
      obtain ⟨v0, vs0, d0, ds0, p0, q0, hargs0, rfl, rfl, g0, r0⟩ := ChangeShapes.trodAll_cons hA
      obtain ⟨hnil, rfl, rfl⟩ := ChangeShapes.trodAll_nil r0
      obtain rfl : args = #[v0] := by cases args; simp_all
      obtain ⟨R0, a0, n0, c0, rfl, hm0, hs0⟩ := open_P Try.underlying35 (by kernel_rfl) (hval 0 _ _ rfl rfl) g0
      exact walk R0 a0 n0 c0 W hm0 hs0)
theorem proved : Rows.FnExactValidProgramSaid :=
  OpenClaim.holds_of_wide 14 Try.f14 rfl rfl rfl rfl rfl rfl rfl ⟨rfl, rfl, rfl, rfl, rfl⟩ rfl rfl rfl rfl rfl (by kernel_rfl) Try.func14 (by kernel_rfl)
    (of_decide_eq_true (by kernel_rfl)) (by unfold Func.isWrapper; first | (rw [if_pos (by decide +kernel)]; kernel_rfl) | (rw [if_neg (by decide +kernel)]; exact ⟨rfl, rfl⟩))
    (fun os started H enc _ => lifted os started H enc)
end Go.Proofs.Ytkeoidapcajlbaa.lawValidProgram
