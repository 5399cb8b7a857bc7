/- States of programs: both functions. -/
import Derived.Test.YtldjgkandkclpaaMS
namespace Go.Proofs.Ytldjgkandkclpaa
open Go.RowKit

theorem RetAK.put3 {w w1 : World} {b : Nat} {ds : List D} {v0 v1 v2 : Value} {F : List Nat} (h : Below w.heap.size w w1) (hb : w.heap.size ≤ b) (ho : OwA w1 ds [v0, v1, v2] F) (hn : F.Nodup) (hF : ∀ y, y ∈ F → w.heap.size ≤ y) (hbF : b ∉ F) (code : Int) :
    RetAK w ds code (.returned (.tuple #[.agg #[v0, v1, v2], .int .i64 code])) (((w1.setCell ⟨b, 0, none⟩ v0).setCell ⟨b, 1, none⟩ v1).setCell ⟨b, 2, none⟩ v2) :=
  ⟨_, F, rfl, ((h.setCell hb _).setCell hb _).setCell hb _, ((ho.put1 hbF _).put1 hbF _).put1 hbF _, hn, hF⟩
theorem RetAK.zsta {w w1 : World} {b : Nat} (h : Below w.heap.size w w1) (hb : w.heap.size ≤ b) (code : Int) :
    RetAK w [dB [], dII [], dI []] code (.returned (.tuple #[.agg #[.slice none 0 0, .slice none 0 0, .slice none 0 0], .int .i64 code])) (((w1.setCell ⟨b, 0, none⟩ (.slice none 0 0)).setCell ⟨b, 1, none⟩ (.slice none 0 0)).setCell ⟨b, 2, none⟩ (.slice none 0 0)) :=
  have ho : OwA w1 [dB [], dII [], dI []] [.slice none 0 0, .slice none 0 0, .slice none 0 0] [] := ⟨[], [], Ow_empty _ _ _ _, ⟨[], [], Ow_empty _ _ _ _, ⟨[], [], Ow_empty _ _ _ _, rfl, rfl⟩, rfl⟩, rfl⟩
  RetAK.put3 h hb ho (by simp) (by simp) (by simp) code
theorem OwA.three3 {w : World} {x : List Bool} {y : List (List Int)} {z : List Int} {vs : List Value} {F : List Nat} (h : OwA w [dB x, dII y, dI z] vs F) : ∃ a0 n0 c0 a1 n1 c1 a2 n2 c2, vs = [.slice a0 n0 c0, .slice a1 n1 c1, .slice a2 n2 c2] := by
  match vs, h with
  | [a, b, c], h =>
    obtain ⟨F1, F2, h1, ⟨F3, F4, h2, ⟨F5, F6, h3, _⟩, _⟩, _⟩ := h
    obtain ⟨a1, c1, rfl⟩ := h1.valB
    obtain ⟨a2, c2, rfl⟩ := h2.valII
    obtain ⟨a3, c3, rfl⟩ := h3.val
    exact ⟨_, _, _, _, _, _, _, _, _, rfl⟩
  | [], h => exact h.elim
  | [_], h => obtain ⟨_, _, _, h2, _⟩ := h; exact h2.elim
  | [_, _], h => obtain ⟨_, _, _, ⟨_, _, _, h3, _⟩, _⟩ := h; exact h3.elim
  | _ :: _ :: _ :: _ :: _, h => obtain ⟨_, _, _, ⟨_, _, _, ⟨_, _, _, h4, _⟩, _⟩, _⟩ := h; exact h4.elim
theorem progState1_c (R : Int) (ao : Option Addr) (no co : Nat) (hno : no ≤ maxLen) (pc : Int) (a : Option Addr) (c : Nat) (regs : List Int) (p q : Nat) (w : World) (hx : SlI Any w a regs) (hp0 : w.cell? ⟨p, 0, none⟩ = some (.int .i64 R)) (hp1 : w.cell? ⟨p, 1, none⟩ = some (.slice ao no co)) (hq0 : w.cell? ⟨q, 0, none⟩ = some (.int .i64 pc)) (hq1 : w.cell? ⟨q, 1, none⟩ = some (.slice a regs.length c)) :
    Calls Try.prog 116 #[.pointer (some ⟨p, 0, none⟩), .pointer (some ⟨q, 0, none⟩)] w (RetV w (.bool (confOk R no pc regs))) := by
  have HC := Lib.hid (isConfig_c R ao no co hno pc a c regs w hx)
  go_enter Try.func116, Try.ntmps116
  go_wp2_with fail
  refine HC.out.mono ?_
  rintro e w1 ⟨rfl, hb⟩
  go_wp2
  go_ret
  exact ⟨rfl, hb⟩
set_option maxHeartbeats 1000000 in
theorem implProgramState_d (R : Int) (os : List Ord) (mode pc : Int) (regs : List Int) {vo vr : Value} {F F1 : List Nat} (w : World) (h1 : Ow w (dO os) vo F) (h2 : Ow w (dI regs) vr F1) :
    Calls Try.prog 52 #[.agg #[.int .i64 R, vo], .int .i64 mode, .agg #[.int .i64 pc, vr]] w (RetAK w [dB (progStateS R os mode pc regs).1.1, dII (progStateS R os mode pc regs).1.2.1, dI (progStateS R os mode pc regs).1.2.2] (progStateS R os mode pc regs).2) := by
  obtain ⟨ao, co, rfl, hc, ho⟩ := h1.capO
  obtain ⟨a, c, rfl⟩ := h2.val
  have hx := h2.arg
  have lo := ho.len
  have hb0 : Below w.heap.size w (((w.alloc (.cells #[.int .i64 R, .slice ao os.length co] 54)).alloc (.cells #[.int .i64 pc, .slice a regs.length c] 86)).alloc (.cells #[.slice none 0 0, .slice none 0 0, .slice none 0 0] 56)) := (((Below.refl _ _).alloc (Nat.le_refl _) _).alloc (by simp) _).alloc (by simp; omega) _
  have HM := Lib.hid (modeCode_c R ao co os mode 116 #[.pointer (some ⟨w.heap.size, 0, none⟩), .pointer (some ⟨w.heap.size + 1, 0, none⟩)] (confOk R os.length pc regs) (((w.alloc (.cells #[.int .i64 R, .slice ao os.length co] 54)).alloc (.cells #[.int .i64 pc, .slice a regs.length c] 86)).alloc (.cells #[.slice none 0 0, .slice none 0 0, .slice none 0 0] 56)) (ho.below hb0) hc (callFunc_run Try.func116 (by kernel_rfl) rfl)
    (Lib.hid fun wx hb _ _ => progState1_c R ao os.length co lo pc a c regs w.heap.size (w.heap.size + 1) wx ((hx.below hb0).below hb) (by rw [bcell1 hb (by simp <;> omega)]; simp [go_sem]) (by rw [bcell1 hb (by simp <;> omega)]; simp [go_sem]) (by rw [bcell1 hb (by simp <;> omega)]; simp [go_sem]) (by rw [bcell1 hb (by simp <;> omega)]; simp [go_sem])))
  have HO := Lib.hid ho
  have HX := Lib.hid hx
  have HB0 := Lib.hid hb0
  clear h1 h2 ho hx hb0 lo
  by_cases hcode : modeCodeS R os mode (confOk R os.length pc regs) = 0
  · obtain ⟨K, rfl, hpg, hm1, hm2, hcf, _, _⟩ := modeCode_zero hcode
    have hres : progStateS K os mode pc regs = (([true], [stateBag (kindsN K os mode) K pc regs], List.replicate (kindsN K os mode) 0), 0) := by unfold progStateS; rw [if_pos hcode]; rfl
    rw [hres]
    rw [hcode] at HM
    have HS := Lib.hid (fun wx (hb : Below w.heap.size w wx) => state_c K ao co os mode pc a c regs wx (HO.out.below hb) hc (HX.out.below hb) hpg hcf)
    clear hcode hres hpg hcf
    go_enter Try.func52, Try.ntmps52
    go_wp2_with fail
    refine HM.out.mono ?_
    rintro e w1 ⟨rfl, hb1⟩
    have bx0 : w1.cell? ⟨w.heap.size, 0, none⟩ = some (.int .i64 K) := by rw [bcell1 hb1 (by simp <;> omega)]; simp [go_sem]
    have bx1 : w1.cell? ⟨w.heap.size, 1, none⟩ = some (.slice ao os.length co) := by rw [bcell1 hb1 (by simp <;> omega)]; simp [go_sem]
    have cx0 : w1.cell? ⟨w.heap.size + 1, 0, none⟩ = some (.int .i64 pc) := by rw [bcell1 hb1 (by simp <;> omega)]; simp [go_sem]
    have cx1 : w1.cell? ⟨w.heap.size + 1, 1, none⟩ = some (.slice a regs.length c) := by rw [bcell1 hb1 (by simp <;> omega)]; simp [go_sem]
    have rr0 : w1.cell? ⟨w.heap.size + 2, 0, none⟩ = some (.slice none 0 0) := by rw [bcell1 hb1 (by simp <;> omega)]; simp [go_sem]
    have rz0 : w1.frozen? ⟨w.heap.size + 2, 0, none⟩ = false := by rw [hb1.frozen (p := ⟨w.heap.size + 2, 0, none⟩) (by simp <;> omega)]; simp [go_sem]
    have rr1 : w1.cell? ⟨w.heap.size + 2, 1, none⟩ = some (.slice none 0 0) := by rw [bcell1 hb1 (by simp <;> omega)]; simp [go_sem]
    have rz1 : w1.frozen? ⟨w.heap.size + 2, 1, none⟩ = false := by rw [hb1.frozen (p := ⟨w.heap.size + 2, 1, none⟩) (by simp <;> omega)]; simp [go_sem]
    have rr2 : w1.cell? ⟨w.heap.size + 2, 2, none⟩ = some (.slice none 0 0) := by rw [bcell1 hb1 (by simp <;> omega)]; simp [go_sem]
    have rz2 : w1.frozen? ⟨w.heap.size + 2, 2, none⟩ = false := by rw [hb1.frozen (p := ⟨w.heap.size + 2, 2, none⟩) (by simp <;> omega)]; simp [go_sem]
    have hz1 : w.heap.size + 3 ≤ w1.heap.size := by have := hb1.size; simp at this; omega
    have HB1 := Lib.hid (HB0.out.trans (hb1.mono (by simp; omega)))
    clear hb1
    go_wp2_with fail
    refine (HS.out _ HB1.out).mono ?_
    rintro e w2 ⟨vs, F2, rfl, hb2, ho2, hn2, hF2⟩
    obtain ⟨a0, n0, c0, a1, n1, c1, a2, n2, c2, rfl⟩ := ho2.three3
    have HO2 := Lib.hid ho2
    have HB2 := Lib.hid (bnext HB1.out hb2 (Nat.le_refl _))
    have HN2 := Lib.hid hn2
    have HF2 := Lib.hid hF2
    have rs0 : w2.cell? ⟨w.heap.size + 2, 0, none⟩ = some (.slice none 0 0) := (bcell1 hb2 (by omega)).trans rr0
    have ry0 : w2.frozen? ⟨w.heap.size + 2, 0, none⟩ = false := (hb2.frozen (p := ⟨w.heap.size + 2, 0, none⟩) (by show w.heap.size + 2 < w1.heap.size; omega)).trans rz0
    have rs1 : w2.cell? ⟨w.heap.size + 2, 1, none⟩ = some (.slice none 0 0) := (bcell1 hb2 (by omega)).trans rr1
    have ry1 : w2.frozen? ⟨w.heap.size + 2, 1, none⟩ = false := (hb2.frozen (p := ⟨w.heap.size + 2, 1, none⟩) (by show w.heap.size + 2 < w1.heap.size; omega)).trans rz1
    have rs2 : w2.cell? ⟨w.heap.size + 2, 2, none⟩ = some (.slice none 0 0) := (bcell1 hb2 (by omega)).trans rr2
    have ry2 : w2.frozen? ⟨w.heap.size + 2, 2, none⟩ = false := (hb2.frozen (p := ⟨w.heap.size + 2, 2, none⟩) (by show w.heap.size + 2 < w1.heap.size; omega)).trans rz2
    clear hb2 ho2 hn2 hF2 rr0 rr1 rr2 rz0 rz1 rz2 bx0 bx1 cx0 cx1
    have sA := set3 w2 (w.heap.size + 2) (.slice a0 n0 c0) (.slice a1 n1 c1) (.slice a2 n2 c2) rs0 rs1 rs2
    go_wp2
    refine bodyPost_ret (v := .tuple #[.agg #[.slice a0 n0 c0, .slice a1 n1 c1, .slice a2 n2 c2], .int .i64 0]) (by simp [results, Try.results52, go_sem, sA]) rfl ?_
    exact RetAK.put3 HB2.out (by omega) HO2.out HN2.out (fun y hy => by have := HF2.out y hy; omega) (fun e => by have := HF2.out _ e; omega) 0
  · have hres : progStateS R os mode pc regs = (zSta, modeCodeS R os mode (confOk R os.length pc regs)) := by unfold progStateS; rw [if_neg hcode]
    rw [hres]
    obtain ⟨code, hcd⟩ : ∃ c, c = modeCodeS R os mode (confOk R os.length pc regs) := ⟨_, rfl⟩
    rw [← hcd] at HM hcode ⊢
    have hq : (code == 0) = false := by simpa using hcode
    clear hcode hres hcd
    go_enter Try.func52, Try.ntmps52
    go_wp2_with fail
    refine HM.out.mono ?_
    rintro e w1 ⟨rfl, hb1⟩
    have rr0 : w1.cell? ⟨w.heap.size + 2, 0, none⟩ = some (.slice none 0 0) := by rw [bcell1 hb1 (by simp <;> omega)]; simp [go_sem]
    have rz0 : w1.frozen? ⟨w.heap.size + 2, 0, none⟩ = false := by rw [hb1.frozen (p := ⟨w.heap.size + 2, 0, none⟩) (by simp <;> omega)]; simp [go_sem]
    have rr1 : w1.cell? ⟨w.heap.size + 2, 1, none⟩ = some (.slice none 0 0) := by rw [bcell1 hb1 (by simp <;> omega)]; simp [go_sem]
    have rz1 : w1.frozen? ⟨w.heap.size + 2, 1, none⟩ = false := by rw [hb1.frozen (p := ⟨w.heap.size + 2, 1, none⟩) (by simp <;> omega)]; simp [go_sem]
    have rr2 : w1.cell? ⟨w.heap.size + 2, 2, none⟩ = some (.slice none 0 0) := by rw [bcell1 hb1 (by simp <;> omega)]; simp [go_sem]
    have rz2 : w1.frozen? ⟨w.heap.size + 2, 2, none⟩ = false := by rw [hb1.frozen (p := ⟨w.heap.size + 2, 2, none⟩) (by simp <;> omega)]; simp [go_sem]
    have HB1 := Lib.hid (HB0.out.trans (hb1.mono (by simp; omega)))
    clear hb1
    have sA := set3 w1 (w.heap.size + 2) (.slice none 0 0) (.slice none 0 0) (.slice none 0 0) rr0 rr1 rr2
    go_wp2
    refine bodyPost_ret (v := .tuple #[.agg #[.slice none 0 0, .slice none 0 0, .slice none 0 0], .int .i64 code]) (by simp [results, Try.results52, go_sem, sA]) rfl ?_
    exact RetAK.zsta HB1.out (by omega) code
end Go.Proofs.Ytldjgkandkclpaa
