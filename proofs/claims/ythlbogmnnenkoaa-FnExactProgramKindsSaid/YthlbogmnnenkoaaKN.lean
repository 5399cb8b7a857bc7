/- ProgramKinds: both functions. -/
import Derived.Test.YthlbogmnnenkoaaMI
namespace Go.Proofs.Ythlbogmnnenkoaa
open Go.RowKit

set_option maxHeartbeats 1000000 in
theorem implProgramKinds_d (R : Int) (os : List Ord) (mode : Int) {vo : Value} {F : List Nat} (w : World) (h1 : Ow w (dO os) vo F) :
    Calls Try.prog 16 #[.agg #[.int .i64 R, vo], .int .i64 mode] w (RetV w (.tuple #[.int .i64 (progKindsS R os mode).1, .int .i64 (progKindsS R os mode).2])) := by
  obtain ⟨ao, co, rfl, hc, ho⟩ := h1.capO
  have hb0 : Below w.heap.size w (w.alloc (.cells #[.int .i64 R, .slice ao os.length co] 30)) := below_alloc _ _
  have HM := Lib.hid (modeCode_c R ao co os mode 94 #[] true _ (ho.below hb0) hc (callFunc_run Try.func94 (by kernel_rfl) rfl) (Lib.hid fun wx _ _ _ => always_c wx))
  have HO := Lib.hid ho
  have HB0 := Lib.hid hb0
  clear h1 ho hb0
  by_cases hcode : modeCodeS R os mode true = 0
  · obtain ⟨K, rfl, hpg, hm1, hm2, _, _, _⟩ := modeCode_zero hcode
    have hres : progKindsS K os mode = (((kindsN K os mode : Nat) : Int), 0) := by unfold progKindsS progSysS; rw [if_pos hcode]; rfl
    rw [hres]
    rw [hcode] at HM
    have HS := Lib.hid (fun wx (hb : Below w.heap.size w wx) => kinds_c K ao co os mode wx (HO.out.below hb) hc hpg)
    clear hcode hres hpg
    go_enter Try.func16, Try.ntmps16
    go_wp2_with fail
    refine HM.out.mono ?_
    rintro e w1 ⟨rfl, hb1⟩
    have bx0 : w1.cell? ⟨w.heap.size, 0, none⟩ = some (.int .i64 K) := by rw [bcell1 hb1 (by simp)]; simp [go_sem]
    have bx1 : w1.cell? ⟨w.heap.size, 1, none⟩ = some (.slice ao os.length co) := by rw [bcell1 hb1 (by simp)]; simp [go_sem]
    have HB1 := Lib.hid (HB0.out.trans (hb1.mono (by simp)))
    clear hb1
    go_wp2_with fail
    refine (HS.out _ HB1.out).mono ?_
    rintro e w2 ⟨rfl, hb2⟩
    have HB2 := Lib.hid (bnext HB1.out hb2 (Nat.le_refl _))
    clear hb2
    go_wp2
    go_ret2
    exact ⟨rfl, HB2.out⟩
  · have hres : progKindsS R os mode = (0, modeCodeS R os mode true) := by unfold progKindsS progSysS; rw [if_neg hcode]; rfl
    rw [hres]
    obtain ⟨code, hcd⟩ : ∃ c, c = modeCodeS R os mode true := ⟨_, rfl⟩
    rw [← hcd] at HM hcode ⊢
    have hq : (code == 0) = false := by simpa using hcode
    clear hcode hres hcd
    go_enter Try.func16, Try.ntmps16
    go_wp2_with fail
    refine HM.out.mono ?_
    rintro e w1 ⟨rfl, hb1⟩
    have HB1 := Lib.hid (HB0.out.trans (hb1.mono (by simp)))
    clear hb1
    go_wp2
    go_ret2
    exact ⟨rfl, HB1.out⟩
theorem codeSys_kinds (R : Int) (os : List Ord) (mode : Int) : progKindsS R os mode = ((codeSysS R os mode true).1.1, (codeSysS R os mode true).2) := by
  unfold progKindsS progSysS codeSysS; split <;> rfl
set_option maxHeartbeats 1000000 in
theorem specProgramKinds_d (R : Int) (os : List Ord) (mode : Int) {vo : Value} (w : World) (h1 : Rd Any w (dO os) vo) :
    Calls Try.prog 14 #[.agg #[.int .i64 R, vo], .int .i64 mode] w (RetV w (.tuple #[.int .i64 (progKindsS R os mode).1, .int .i64 (progKindsS R os mode).2])) := by
  obtain ⟨ao, co, rfl, ho⟩ := Rd_O.1 h1
  have hb0 : Below w.heap.size w (w.alloc (.cells #[.int .i64 R, .slice ao os.length co] 30)) := below_alloc _ _
  have HD := Lib.hid (l05Code_c R w.heap.size ao co os mode true _ (ho.below hb0) (by simp [go_sem]) (by simp [go_sem]))
  have HB0 := Lib.hid hb0
  rw [codeSys_kinds]
  obtain ⟨S, hS⟩ : ∃ S, S = codeSysS R os mode true := ⟨_, rfl⟩
  rw [← hS] at HD ⊢
  obtain ⟨⟨k, l1, l2⟩, code⟩ := S
  clear h1 ho hb0 hS
  go_enter Try.func14, Try.ntmps14
  go_wp2_with fail
  refine HD.out.mono ?_
  rintro e w1 ⟨vs, F2, rfl, hb1, ho2, _, _⟩
  obtain ⟨a1, n1, c1, a2, c2, rfl⟩ := ho2.three
  have HB1 : Hid (Below w.heap.size w w1) := Lib.hid (HB0.out.trans (hb1.mono (by simp)))
  have hz : w.heap.size ≤ w1.heap.size := HB1.out.size
  clear hb1 ho2
  go_wp2
  go_ret2
  exact ⟨rfl, HB1.out.alloc hz _⟩
end Go.Proofs.Ythlbogmnnenkoaa
