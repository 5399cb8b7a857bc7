/- States of programs: the reference. -/
import Derived.Test.YtldjgkandkclpaaMU
namespace Go.Proofs.Ytldjgkandkclpaa
open Go.RowKit

theorem modeCode_or (R : Int) (os : List Ord) (mode : Int) (b : Bool) : modeCodeS R os mode (!validProgS R os || b) = modeCodeS R os mode b := by
  unfold modeCodeS
  cases validProgS R os <;> simp
set_option maxHeartbeats 1000000 in
theorem specProgramState_d (R : Int) (os : List Ord) (mode pc : Int) (regs : List Int) {vo vr : Value} (w : World) (h1 : Rd Any w (dO os) vo) (h2 : Rd Any w (dI regs) vr) :
    Calls Try.prog 50 #[.agg #[.int .i64 R, vo], .int .i64 mode, .agg #[.int .i64 pc, vr]] w (RetAK w [dB (progStateS R os mode pc regs).1.1, dII (progStateS R os mode pc regs).1.2.1, dI (progStateS R os mode pc regs).1.2.2] (progStateS R os mode pc regs).2) := by
  obtain ⟨ao, co, rfl, ho⟩ := Rd_O.1 h1
  obtain ⟨a, c, rfl, hx⟩ := Rd_I.1 h2
  have lo := ho.len
  have hb0 : Below w.heap.size w (((w.alloc (.cells #[.int .i64 R, .slice ao os.length co] 54)).alloc (.cells #[.int .i64 pc, .slice a regs.length c] 86)).alloc (.cells #[.slice none 0 0, .slice none 0 0, .slice none 0 0] 56)) := (((Below.refl _ _).alloc (Nat.le_refl _) _).alloc (by simp) _).alloc (by simp; omega) _
  have HK := Lib.hid (l05Ok_c R Any ao co os w.heap.size (((w.alloc (.cells #[.int .i64 R, .slice ao os.length co] 54)).alloc (.cells #[.int .i64 pc, .slice a regs.length c] 86)).alloc (.cells #[.slice none 0 0, .slice none 0 0, .slice none 0 0] 56)) (ho.below hb0) (by simp [go_sem]) (by simp [go_sem]))
  have HC := Lib.hid (fun (wx : World) (hb : Below (((w.alloc (.cells #[.int .i64 R, .slice ao os.length co] 54)).alloc (.cells #[.int .i64 pc, .slice a regs.length c] 86)).alloc (.cells #[.slice none 0 0, .slice none 0 0, .slice none 0 0] 56)).heap.size (((w.alloc (.cells #[.int .i64 R, .slice ao os.length co] 54)).alloc (.cells #[.int .i64 pc, .slice a regs.length c] 86)).alloc (.cells #[.slice none 0 0, .slice none 0 0, .slice none 0 0] 56)) wx) => l05Config_c R w.heap.size (w.heap.size + 1) ao os.length co pc a c regs wx ((hx.below hb0).below (hb.mono (by simp))) lo (by rw [bcell1 hb (by simp <;> omega)]; simp [go_sem]) (by rw [bcell1 hb (by simp <;> omega)]; simp [go_sem]) (by rw [bcell1 hb (by simp <;> omega)]; simp [go_sem]) (by rw [bcell1 hb (by simp <;> omega)]; simp [go_sem]))
  have HD := Lib.hid (fun (wx : World) (right : Bool) (hb : Below (((w.alloc (.cells #[.int .i64 R, .slice ao os.length co] 54)).alloc (.cells #[.int .i64 pc, .slice a regs.length c] 86)).alloc (.cells #[.slice none 0 0, .slice none 0 0, .slice none 0 0] 56)).heap.size (((w.alloc (.cells #[.int .i64 R, .slice ao os.length co] 54)).alloc (.cells #[.int .i64 pc, .slice a regs.length c] 86)).alloc (.cells #[.slice none 0 0, .slice none 0 0, .slice none 0 0] 56)) wx) => l05Code_c R w.heap.size ao co os mode right wx ((ho.below hb0).below (hb.mono (by simp))) (by rw [bcell1 hb (by simp <;> omega)]; simp [go_sem]) (by rw [bcell1 hb (by simp <;> omega)]; simp [go_sem]))
  have HX := Lib.hid hx
  have HB0 := Lib.hid hb0
  clear h1 h2 ho hx hb0 lo
  by_cases hv : validProgS R os = true
  · rw [hv] at HK
    by_cases hcode : modeCodeS R os mode (confOk R os.length pc regs) = 0
    · obtain ⟨K, rfl, hpg, hm1, hm2, hcf, _, _⟩ := modeCode_zero hcode
      have hres : progStateS K os mode pc regs = (([true], [stateBag (kindsN K os mode) K pc regs], List.replicate (kindsN K os mode) 0), 0) := by unfold progStateS; rw [if_pos hcode]; rfl
      have hsys : codeSysS K os mode true = ((((kindsN K os mode : Nat) : Int), [-1], rulesS K os mode), 0) := by
        rw [hcf] at hcode
        unfold codeSysS; rw [if_pos hcode]; rfl
      rw [hres]
      obtain ⟨hp0, hp1, hrl⟩ := confOk_ok hcf
      obtain ⟨n, rfl⟩ : ∃ n : Nat, pc = n := ⟨pc.toNat, by omega⟩
      obtain ⟨ad, rfl⟩ := HX.out.addr (by have := hpg.r1; omega)
      obtain ⟨hk1, hk2⟩ := kindsN_le hpg mode
      have h1 := hpg.r1
      have h3 := hpg.r3
      have h6 := hpg.n6
      have HSY := Lib.hid hsys
      have HS := Lib.hid (fun (w3 : World) q0 q1 q2 (hb : Below w.heap.size w w3) => l05State_c K (kindsN K os mode) w.heap.size (w.heap.size + 1) n ad c regs w3 (HX.out.below hb) q0 q1 q2 h3 h1 (by omega) hrl (by omega) (by omega))
      have HKK : Hid (kindsN K os mode ≤ 16777216) := Lib.hid (by omega)
      rw [hcf] at HC
      clear hcode hres hpg hcf hsys hv hrl hk1 hp0 hp1
      go_enter Try.func50, Try.ntmps50
      go_wp2_with fail
      refine HK.out.mono ?_
      rintro e w1 ⟨rfl, hb1⟩
      go_wp2_with fail
      refine (HC.out w1 hb1).mono ?_
      rintro e w2 ⟨rfl, hb2⟩
      have hb2' := bnext hb1 hb2 (Nat.le_refl _)
      go_wp2_with fail
      have HD2 := HD.out w2 true hb2'
      rw [HSY.out] at HD2
      refine HD2.mono ?_
      rintro e w3 ⟨vs, F2, rfl, hb3, ho3, hn3, hF3⟩
      obtain ⟨a1, n1, c1, a2, c2, rfl⟩ := ho3.three
      have hbb := bnext hb2' hb3 (Nat.le_refl _)
      have rr0 : w3.cell? ⟨w.heap.size + 2, 0, none⟩ = some (.slice none 0 0) := by rw [bcell1 hbb (by simp <;> omega)]; simp [go_sem]
      have rz0 : w3.frozen? ⟨w.heap.size + 2, 0, none⟩ = false := by rw [hbb.frozen (p := ⟨w.heap.size + 2, 0, none⟩) (by simp <;> omega)]; simp [go_sem]
      have rr1 : w3.cell? ⟨w.heap.size + 2, 1, none⟩ = some (.slice none 0 0) := by rw [bcell1 hbb (by simp <;> omega)]; simp [go_sem]
      have rz1 : w3.frozen? ⟨w.heap.size + 2, 1, none⟩ = false := by rw [hbb.frozen (p := ⟨w.heap.size + 2, 1, none⟩) (by simp <;> omega)]; simp [go_sem]
      have rr2 : w3.cell? ⟨w.heap.size + 2, 2, none⟩ = some (.slice none 0 0) := by rw [bcell1 hbb (by simp <;> omega)]; simp [go_sem]
      have rz2 : w3.frozen? ⟨w.heap.size + 2, 2, none⟩ = false := by rw [hbb.frozen (p := ⟨w.heap.size + 2, 2, none⟩) (by simp <;> omega)]; simp [go_sem]
      have bx0 : w3.cell? ⟨w.heap.size, 0, none⟩ = some (.int .i64 K) := by rw [bcell1 hbb (by simp <;> omega)]; simp [go_sem]
      have cx0 : w3.cell? ⟨w.heap.size + 1, 0, none⟩ = some (.int .i64 n) := by rw [bcell1 hbb (by simp <;> omega)]; simp [go_sem]
      have cx1 : w3.cell? ⟨w.heap.size + 1, 1, none⟩ = some (.slice (some ad) regs.length c) := by rw [bcell1 hbb (by simp <;> omega)]; simp [go_sem]
      have HB3 : Hid (Below w.heap.size w w3) := Lib.hid (HB0.out.trans (hbb.mono (by simp; omega)))
      have hz3 : w.heap.size + 3 ≤ w3.heap.size := by have := hbb.size; simp at this; omega
      clear hb1 hb2 hb2' hb3 hbb ho3 hn3 hF3 HD2
      go_wp2_with fail
      have HB4 : Hid (Below w.heap.size w (w3.alloc (.cells #[.int .i64 (kindsN K os mode : Nat), .slice a1 n1 c1, .slice a2 (rulesS K os mode).length c2] 95))) := Lib.hid (HB3.out.alloc (by omega) _)
      refine (HS.out _ ((bcell1 (below_alloc w3 _) (by omega)).trans bx0) ((bcell1 (below_alloc w3 _) (by omega)).trans cx0) ((bcell1 (below_alloc w3 _) (by omega)).trans cx1) HB4.out).mono ?_
      rintro e w5 ⟨vs, F5, rfl, hb5, ho5, hn5, hF5⟩
      obtain ⟨a0, n0, c0, a6, n6, c6, a7, n7, c7, rfl⟩ := ho5.three3
      have hz5 : w3.heap.size + 1 = (w3.alloc (.cells #[.int .i64 (kindsN K os mode : Nat), .slice a1 n1 c1, .slice a2 (rulesS K os mode).length c2] 95)).heap.size := by simp
      have rs0 : w5.cell? ⟨w.heap.size + 2, 0, none⟩ = some (.slice none 0 0) := (bcell1 hb5 (by simp; omega)).trans ((bcell1 (below_alloc w3 _) (by omega)).trans rr0)
      have ry0 : w5.frozen? ⟨w.heap.size + 2, 0, none⟩ = false := (hb5.frozen (p := ⟨w.heap.size + 2, 0, none⟩) (by simp; omega)).trans (((below_alloc w3 _).frozen (p := ⟨w.heap.size + 2, 0, none⟩) (by show w.heap.size + 2 < w3.heap.size; omega)).trans rz0)
      have rs1 : w5.cell? ⟨w.heap.size + 2, 1, none⟩ = some (.slice none 0 0) := (bcell1 hb5 (by simp; omega)).trans ((bcell1 (below_alloc w3 _) (by omega)).trans rr1)
      have ry1 : w5.frozen? ⟨w.heap.size + 2, 1, none⟩ = false := (hb5.frozen (p := ⟨w.heap.size + 2, 1, none⟩) (by simp; omega)).trans (((below_alloc w3 _).frozen (p := ⟨w.heap.size + 2, 1, none⟩) (by show w.heap.size + 2 < w3.heap.size; omega)).trans rz1)
      have rs2 : w5.cell? ⟨w.heap.size + 2, 2, none⟩ = some (.slice none 0 0) := (bcell1 hb5 (by simp; omega)).trans ((bcell1 (below_alloc w3 _) (by omega)).trans rr2)
      have ry2 : w5.frozen? ⟨w.heap.size + 2, 2, none⟩ = false := (hb5.frozen (p := ⟨w.heap.size + 2, 2, none⟩) (by simp; omega)).trans (((below_alloc w3 _).frozen (p := ⟨w.heap.size + 2, 2, none⟩) (by show w.heap.size + 2 < w3.heap.size; omega)).trans rz2)
      have HB5 := Lib.hid (bnext HB4.out hb5 (Nat.le_refl _))
      have HO5 := Lib.hid ho5
      have HN5 := Lib.hid hn5
      have HF5 : Hid (∀ y, y ∈ F5 → w3.heap.size + 1 ≤ y) := Lib.hid (fun y hy => by have := hF5 y hy; omega)
      clear hb5 ho5 hn5 hF5 hz5 rr0 rr1 rr2 rz0 rz1 rz2 bx0 cx0 cx1
      have sA := set3 w5 (w.heap.size + 2) (.slice a0 n0 c0) (.slice a6 n6 c6) (.slice a7 n7 c7) rs0 rs1 rs2
      go_wp2
      refine bodyPost_ret (v := .tuple #[.agg #[.slice a0 n0 c0, .slice a6 n6 c6, .slice a7 n7 c7], .int .i64 0]) (by simp [results, Try.results50, go_sem, sA]) rfl ?_
      exact RetAK.put3 HB5.out (by omega) HO5.out HN5.out (fun y hy => by have := HF5.out y hy; omega) (fun e => by have := HF5.out _ e; omega) 0
    · have hres : progStateS R os mode pc regs = (zSta, modeCodeS R os mode (confOk R os.length pc regs)) := by unfold progStateS; rw [if_neg hcode]
      rw [hres]
      have hsys : codeSysS R os mode (confOk R os.length pc regs) = (zSys, modeCodeS R os mode (confOk R os.length pc regs)) := by unfold codeSysS; rw [if_neg hcode]
      obtain ⟨code, hcd⟩ : ∃ c, c = modeCodeS R os mode (confOk R os.length pc regs) := ⟨_, rfl⟩
      rw [← hcd] at hcode hsys ⊢
      obtain ⟨cf, hcf⟩ : ∃ b, b = confOk R os.length pc regs := ⟨_, rfl⟩
      rw [← hcf] at HC hsys
      have HSY := Lib.hid hsys
      have hq : (code == 0) = false := by simpa using hcode
      clear hcode hres hsys hcd hv hcf
      go_enter Try.func50, Try.ntmps50
      go_wp2_with fail
      refine HK.out.mono ?_
      rintro e w1 ⟨rfl, hb1⟩
      go_wp2_with fail
      refine (HC.out w1 hb1).mono ?_
      rintro e w2 ⟨rfl, hb2⟩
      have hb2' := bnext hb1 hb2 (Nat.le_refl _)
      go_wp2_with fail
      have HD2 := HD.out w2 cf hb2'
      rw [HSY.out] at HD2
      refine HD2.mono ?_
      rintro e w3 ⟨vs, F2, rfl, hb3, ho3, hn3, hF3⟩
      obtain ⟨a1, n1, c1, a2, c2, rfl⟩ := ho3.three
      have hbb := bnext hb2' hb3 (Nat.le_refl _)
      have rr0 : w3.cell? ⟨w.heap.size + 2, 0, none⟩ = some (.slice none 0 0) := by rw [bcell1 hbb (by simp <;> omega)]; simp [go_sem]
      have rz0 : w3.frozen? ⟨w.heap.size + 2, 0, none⟩ = false := by rw [hbb.frozen (p := ⟨w.heap.size + 2, 0, none⟩) (by simp <;> omega)]; simp [go_sem]
      have rr1 : w3.cell? ⟨w.heap.size + 2, 1, none⟩ = some (.slice none 0 0) := by rw [bcell1 hbb (by simp <;> omega)]; simp [go_sem]
      have rz1 : w3.frozen? ⟨w.heap.size + 2, 1, none⟩ = false := by rw [hbb.frozen (p := ⟨w.heap.size + 2, 1, none⟩) (by simp <;> omega)]; simp [go_sem]
      have rr2 : w3.cell? ⟨w.heap.size + 2, 2, none⟩ = some (.slice none 0 0) := by rw [bcell1 hbb (by simp <;> omega)]; simp [go_sem]
      have rz2 : w3.frozen? ⟨w.heap.size + 2, 2, none⟩ = false := by rw [hbb.frozen (p := ⟨w.heap.size + 2, 2, none⟩) (by simp <;> omega)]; simp [go_sem]
      have HB3 : Hid (Below w.heap.size w w3) := Lib.hid (HB0.out.trans (hbb.mono (by simp; omega)))
      have hz3 : w.heap.size + 3 ≤ w3.heap.size := by have := hbb.size; simp at this; omega
      clear hb1 hb2 hb2' hb3 hbb ho3 hn3 hF3 HD2
      have HBZ : Hid (Below w.heap.size w (w3.alloc (.cells #[.int .i64 zSys.1, .slice a1 n1 c1, .slice a2 zSys.2.2.length c2] 95))) := Lib.hid (HB3.out.alloc (by omega) _)
      have rs0 : (w3.alloc (.cells #[.int .i64 zSys.1, .slice a1 n1 c1, .slice a2 zSys.2.2.length c2] 95)).cell? ⟨w.heap.size + 2, 0, none⟩ = some (.slice none 0 0) := (bcell1 (below_alloc w3 _) (by omega)).trans rr0
      have ry0 : (w3.alloc (.cells #[.int .i64 zSys.1, .slice a1 n1 c1, .slice a2 zSys.2.2.length c2] 95)).frozen? ⟨w.heap.size + 2, 0, none⟩ = false := ((below_alloc w3 _).frozen (p := ⟨w.heap.size + 2, 0, none⟩) (by show w.heap.size + 2 < w3.heap.size; omega)).trans rz0
      have rs1 : (w3.alloc (.cells #[.int .i64 zSys.1, .slice a1 n1 c1, .slice a2 zSys.2.2.length c2] 95)).cell? ⟨w.heap.size + 2, 1, none⟩ = some (.slice none 0 0) := (bcell1 (below_alloc w3 _) (by omega)).trans rr1
      have ry1 : (w3.alloc (.cells #[.int .i64 zSys.1, .slice a1 n1 c1, .slice a2 zSys.2.2.length c2] 95)).frozen? ⟨w.heap.size + 2, 1, none⟩ = false := ((below_alloc w3 _).frozen (p := ⟨w.heap.size + 2, 1, none⟩) (by show w.heap.size + 2 < w3.heap.size; omega)).trans rz1
      have rs2 : (w3.alloc (.cells #[.int .i64 zSys.1, .slice a1 n1 c1, .slice a2 zSys.2.2.length c2] 95)).cell? ⟨w.heap.size + 2, 2, none⟩ = some (.slice none 0 0) := (bcell1 (below_alloc w3 _) (by omega)).trans rr2
      have ry2 : (w3.alloc (.cells #[.int .i64 zSys.1, .slice a1 n1 c1, .slice a2 zSys.2.2.length c2] 95)).frozen? ⟨w.heap.size + 2, 2, none⟩ = false := ((below_alloc w3 _).frozen (p := ⟨w.heap.size + 2, 2, none⟩) (by show w.heap.size + 2 < w3.heap.size; omega)).trans rz2
      have sA := set3 (w3.alloc (.cells #[.int .i64 zSys.1, .slice a1 n1 c1, .slice a2 zSys.2.2.length c2] 95)) (w.heap.size + 2) (.slice none 0 0) (.slice none 0 0) (.slice none 0 0) rs0 rs1 rs2
      clear rr0 rr1 rr2 rz0 rz1 rz2
      go_wp2
      refine bodyPost_ret (v := .tuple #[.agg #[.slice none 0 0, .slice none 0 0, .slice none 0 0], .int .i64 code]) (by simp [results, Try.results50, go_sem, sA]) rfl ?_
      exact RetAK.zsta HBZ.out (by omega) code
  · have hv : validProgS R os = false := by simpa using hv
    rw [hv] at HK
    have hcode : ¬ modeCodeS R os mode (confOk R os.length pc regs) = 0 := by unfold modeCodeS; rw [hv]; simp
    have hres : progStateS R os mode pc regs = (zSta, modeCodeS R os mode (confOk R os.length pc regs)) := by unfold progStateS; rw [if_neg hcode]
    rw [hres]
    have hsys : codeSysS R os mode true = (zSys, modeCodeS R os mode (confOk R os.length pc regs)) := by
      have e : modeCodeS R os mode true = modeCodeS R os mode (confOk R os.length pc regs) := by have := modeCode_or R os mode (confOk R os.length pc regs); rw [hv] at this; exact this
      unfold codeSysS; rw [e, if_neg hcode]
    obtain ⟨code, hcd⟩ : ∃ c, c = modeCodeS R os mode (confOk R os.length pc regs) := ⟨_, rfl⟩
    rw [← hcd] at hcode hsys ⊢
    have HSY := Lib.hid hsys
    have hq : (code == 0) = false := by simpa using hcode
    clear hcode hres hsys hcd hv
    go_enter Try.func50, Try.ntmps50
    go_wp2_with fail
    refine HK.out.mono ?_
    rintro e w1 ⟨rfl, hb1⟩
    go_wp2_with fail
    have hb2' := hb1
    have HD2 := HD.out w1 true hb2'
    rw [HSY.out] at HD2
    refine HD2.mono ?_
    rintro e w3 ⟨vs, F2, rfl, hb3, ho3, hn3, hF3⟩
    obtain ⟨a1, n1, c1, a2, c2, rfl⟩ := ho3.three
    have hbb := bnext hb2' hb3 (Nat.le_refl _)
    have rr0 : w3.cell? ⟨w.heap.size + 2, 0, none⟩ = some (.slice none 0 0) := by rw [bcell1 hbb (by simp <;> omega)]; simp [go_sem]
    have rz0 : w3.frozen? ⟨w.heap.size + 2, 0, none⟩ = false := by rw [hbb.frozen (p := ⟨w.heap.size + 2, 0, none⟩) (by simp <;> omega)]; simp [go_sem]
    have rr1 : w3.cell? ⟨w.heap.size + 2, 1, none⟩ = some (.slice none 0 0) := by rw [bcell1 hbb (by simp <;> omega)]; simp [go_sem]
    have rz1 : w3.frozen? ⟨w.heap.size + 2, 1, none⟩ = false := by rw [hbb.frozen (p := ⟨w.heap.size + 2, 1, none⟩) (by simp <;> omega)]; simp [go_sem]
    have rr2 : w3.cell? ⟨w.heap.size + 2, 2, none⟩ = some (.slice none 0 0) := by rw [bcell1 hbb (by simp <;> omega)]; simp [go_sem]
    have rz2 : w3.frozen? ⟨w.heap.size + 2, 2, none⟩ = false := by rw [hbb.frozen (p := ⟨w.heap.size + 2, 2, none⟩) (by simp <;> omega)]; simp [go_sem]
    have HB3 : Hid (Below w.heap.size w w3) := Lib.hid (HB0.out.trans (hbb.mono (by simp; omega)))
    have hz3 : w.heap.size + 3 ≤ w3.heap.size := by have := hbb.size; simp at this; omega
    clear hb1 hb2' hb3 hbb ho3 hn3 hF3 HD2
    have HBZ : Hid (Below w.heap.size w (w3.alloc (.cells #[.int .i64 zSys.1, .slice a1 n1 c1, .slice a2 zSys.2.2.length c2] 95))) := Lib.hid (HB3.out.alloc (by omega) _)
    have rs0 : (w3.alloc (.cells #[.int .i64 zSys.1, .slice a1 n1 c1, .slice a2 zSys.2.2.length c2] 95)).cell? ⟨w.heap.size + 2, 0, none⟩ = some (.slice none 0 0) := (bcell1 (below_alloc w3 _) (by omega)).trans rr0
    have ry0 : (w3.alloc (.cells #[.int .i64 zSys.1, .slice a1 n1 c1, .slice a2 zSys.2.2.length c2] 95)).frozen? ⟨w.heap.size + 2, 0, none⟩ = false := ((below_alloc w3 _).frozen (p := ⟨w.heap.size + 2, 0, none⟩) (by show w.heap.size + 2 < w3.heap.size; omega)).trans rz0
    have rs1 : (w3.alloc (.cells #[.int .i64 zSys.1, .slice a1 n1 c1, .slice a2 zSys.2.2.length c2] 95)).cell? ⟨w.heap.size + 2, 1, none⟩ = some (.slice none 0 0) := (bcell1 (below_alloc w3 _) (by omega)).trans rr1
    have ry1 : (w3.alloc (.cells #[.int .i64 zSys.1, .slice a1 n1 c1, .slice a2 zSys.2.2.length c2] 95)).frozen? ⟨w.heap.size + 2, 1, none⟩ = false := ((below_alloc w3 _).frozen (p := ⟨w.heap.size + 2, 1, none⟩) (by show w.heap.size + 2 < w3.heap.size; omega)).trans rz1
    have rs2 : (w3.alloc (.cells #[.int .i64 zSys.1, .slice a1 n1 c1, .slice a2 zSys.2.2.length c2] 95)).cell? ⟨w.heap.size + 2, 2, none⟩ = some (.slice none 0 0) := (bcell1 (below_alloc w3 _) (by omega)).trans rr2
    have ry2 : (w3.alloc (.cells #[.int .i64 zSys.1, .slice a1 n1 c1, .slice a2 zSys.2.2.length c2] 95)).frozen? ⟨w.heap.size + 2, 2, none⟩ = false := ((below_alloc w3 _).frozen (p := ⟨w.heap.size + 2, 2, none⟩) (by show w.heap.size + 2 < w3.heap.size; omega)).trans rz2
    have sA := set3 (w3.alloc (.cells #[.int .i64 zSys.1, .slice a1 n1 c1, .slice a2 zSys.2.2.length c2] 95)) (w.heap.size + 2) (.slice none 0 0) (.slice none 0 0) (.slice none 0 0) rs0 rs1 rs2
    clear rr0 rr1 rr2 rz0 rz1 rz2
    go_wp2
    refine bodyPost_ret (v := .tuple #[.agg #[.slice none 0 0, .slice none 0 0, .slice none 0 0], .int .i64 code]) (by simp [results, Try.results50, go_sem, sA]) rfl ?_
    exact RetAK.zsta HBZ.out (by omega) code
end Go.Proofs.Ytldjgkandkclpaa
