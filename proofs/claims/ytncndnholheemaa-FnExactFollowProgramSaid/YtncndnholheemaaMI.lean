/- Systems of programs: the codes, and both functions. Written by mkmi.py. -/
import Derived.Test.YtncndnholheemaaME
import Derived.Test.YtncndnholheemaaMH
namespace Go.Proofs.Ytncndnholheemaa
open Go.RowKit

abbrev Sys := Int × List Int × List Rul
def zSys : Sys := (0, [], [])
def progSysS (R : Int) (os : List Ord) (mode : Int) : Sys × Int :=
  if modeCodeS R os mode true = 0 then (((kindsN R.toNat os mode : Nat), [-1], rulesS R.toNat os mode), 0) else (zSys, modeCodeS R os mode true)
def progKindsS (R : Int) (os : List Ord) (mode : Int) : Int × Int := ((progSysS R os mode).1.1, (progSysS R os mode).2)
/-- The call returns a row in memory of its own, and a code. -/
def RetAK (w : World) (ds : List D) (code : Int) (e : Ending) (w' : World) : Prop := ∃ vs F, e = .returned (.tuple #[.agg ⟨vs⟩, .int .i64 code]) ∧ Below w.heap.size w w' ∧ OwA w' ds vs F ∧ F.Nodup ∧ ∀ g, g ∈ F → w.heap.size ≤ g
theorem modeCode_zero {R : Int} {os : List Ord} {mode : Int} {right : Bool} (h : modeCodeS R os mode right = 0) : ∃ K : Nat, R = K ∧ PgOk K os ∧ 1 ≤ mode ∧ mode ≤ 3 ∧ right = true ∧ kindsN K os mode ≤ 8 ∧ (rulesS K os mode).length ≤ 8 := by
  unfold modeCodeS at h
  split at h
  · rename_i hv
    split at h
    · rename_i hm
      split at h
      · exact absurd h (by decide)
      · rename_i ht
        obtain ⟨K, rfl, hp⟩ := PgOk.of hv
        simp only [inRg, Bool.and_eq_true, decide_eq_true_eq] at hm
        simp only [tooGreat, Int.toNat_natCast, Bool.or_eq_true, decide_eq_true_eq, not_or] at ht
        exact ⟨K, rfl, hp, hm.1.1, hm.1.2, hm.2, by omega, by omega⟩
    · exact absurd h (by decide)
  · exact absurd h (by decide)
theorem rulesS_len (R : Nat) (os : List Ord) (mode : Int) : (rulesS R os mode).length ≤ 4 * os.length + 1 := by
  have := rulesTo_len R os mode (kindsN R os mode) os.length
  unfold rulesS
  rw [List.length_append]
  split <;> simp <;> omega
theorem isTooGreat_c {B : Nat} {w : World} {gb K : Nat} {rs : List Rul} {v : Value} {G : List Nat} {fs : List Int} {vf : Value} {Gf : List Nat} (h : Bst B w gb K rs v G fs vf Gf) (hK : K ≤ 17) (hr : rs.length ≤ 30) :
    Calls Try.prog 128 #[.pointer (some ⟨gb, 0, none⟩)] w (RetP w (.bool (decide (8 < K) || decide (8 < rs.length)))) := by
  have c0 := h.mr.c0
  have c1 := h.mr.c1
  obtain ⟨_, av, cv, rfl⟩ := h.mr.lst.val
  clear h
  by_cases h1 : 8 < K
  · rw [decide_eq_true h1, Bool.true_or]
    go_enter Try.func128, Try.ntmps128
    go_wp2
    go_ret
    exact ⟨rfl, rfl⟩
  · rw [decide_eq_false h1, Bool.false_or]
    have h0 : ¬ (8 : Int) < K := by omega
    by_cases h2 : 8 < rs.length
    · rw [decide_eq_true h2]
      have h3 : (8 : Int) < rs.length := by omega
      go_enter Try.func128, Try.ntmps128
      go_wp2
      go_ret
      exact ⟨rfl, rfl⟩
    · rw [decide_eq_false h2]
      have h3 : ¬ (8 : Int) < rs.length := by omega
      go_enter Try.func128, Try.ntmps128
      go_wp2
      go_ret
      exact ⟨rfl, rfl⟩
set_option maxHeartbeats 2000000 in
theorem modeCode_c (R : Int) (ao : Option Addr) (co : Nat) (os : List Ord) (mode : Int) (f : FuncId) (caps : Array Value) (right : Bool) (w : World) (ho : SlO Any w ao os) (hc : os.length ≤ co) (hcall : ∀ args w, (callFunc f args).run Try.prog w = .ok (.enter f args) w)
    (hf : Hid (∀ wx, Below w.heap.size w wx → validProgS R os = true → 1 ≤ mode ∧ mode ≤ 3 → Calls Try.prog f caps wx (RetV wx (.bool right)))) :
    Calls Try.prog 89 #[.agg #[.int .i64 R, .slice ao os.length co], .int .i64 mode, .func (.func f) #[] caps] w (RetV w (.int .i64 (modeCodeS R os mode right))) := by
  have al := below_alloc w (.cells #[.int .i64 R, .slice ao os.length co] 52)
  have HV := Lib.hid (implValidProgram_c R Any ao co os _ (ho.below al))
  have HO := Lib.hid ho
  have HAL := Lib.hid al
  have lo := ho.len
  unfold maxLen at lo
  clear ho al
  cases hv : validProgS R os
  · rw [hv] at HV
    have HE : Hid (modeCodeS R os mode right = 1) := Lib.hid (by rw [modeCodeS, hv]; rfl)
    clear hv
    go_enter Try.func89, Try.ntmps89
    go_wp2_with fail
    refine HV.out.mono ?_
    rintro e w1 ⟨rfl, hb1⟩
    go_wp2
    go_ret
    exact ⟨ret_int HE.out.symm, bnext HAL.out hb1 (Nat.le_refl _)⟩
  · rw [hv] at HV
    have HVV := Lib.hid hv
    obtain ⟨K, rfl, hpg⟩ := PgOk.of hv
    have HI := Lib.hid (fun w => inRange_c mode 1 3 w)
    cases hm : inRg mode 1 3
    · rw [hm] at HI
      have HE : Hid (modeCodeS K os mode right = 2) := Lib.hid (by rw [modeCodeS, if_pos hv, hm]; simp)
      clear hv hm hpg
      go_enter Try.func89, Try.ntmps89
      go_wp2_with fail
      refine HV.out.mono ?_
      rintro e w1 ⟨rfl, hb1⟩
      have HB1 := Lib.hid (bnext HAL.out hb1 (Nat.le_refl _))
      clear hb1
      go_wp2_with fail
      refine (HI.out _).mono ?_
      rintro e w2 ⟨rfl, rfl⟩
      go_wp2
      go_ret
      exact ⟨ret_int HE.out.symm, HB1.out⟩
    · rw [hm] at HI
      have hm2 : 1 ≤ mode ∧ mode ≤ 3 := by simpa [inRg] using hm
      cases hr : right
      · subst hr
        have HE : Hid (modeCodeS K os mode false = 2) := Lib.hid (by rw [modeCodeS, if_pos hv, hm]; simp)
        clear hv hm hpg
        go_enter Try.func89, Try.ntmps89
        go_wp2_with fail
        refine HV.out.mono ?_
        rintro e w1 ⟨rfl, hb1⟩
        have HB1 := Lib.hid (bnext HAL.out hb1 (Nat.le_refl _))
        clear hb1
        go_wp2_with fail
        refine (HI.out _).mono ?_
        rintro e w2 ⟨rfl, rfl⟩
        have HF := Lib.hid (hf.out _ HB1.out HVV.out hm2)
        go_wp2_with fail
        refine HF.out.mono ?_
        rintro e w3 ⟨rfl, hb3⟩
        go_wp2
        go_ret
        exact ⟨ret_int HE.out.symm, bnext HB1.out hb3 (Nat.le_refl _)⟩
      · subst hr
        have hk := (kindsN_le hpg mode).2
        have hl := rulesS_len K os mode
        have h6 := hpg.n6
        have HPG := Lib.hid hpg
        have HE : Hid (modeCodeS K os mode true = if (decide (8 < kindsN K os mode) || decide (8 < (rulesS K os mode).length)) = true then 3 else 0) := Lib.hid (by rw [modeCodeS, if_pos hv, hm]; simp [tooGreat])
        clear hv hm hpg
        go_enter Try.func89, Try.ntmps89
        go_wp2_with fail
        refine HV.out.mono ?_
        rintro e w1 ⟨rfl, hb1⟩
        have HB1 := Lib.hid (bnext HAL.out hb1 (Nat.le_refl _))
        have bx0 : w1.cell? ⟨w.heap.size, 0, none⟩ = some (.int .i64 K) := by rw [bcell1 hb1 (by simp)]; simp [go_sem]
        have bx1 : w1.cell? ⟨w.heap.size, 1, none⟩ = some (.slice ao os.length co) := by rw [bcell1 hb1 (by simp)]; simp [go_sem]
        have hz1 : w.heap.size < w1.heap.size := by have := hb1.size; simp at this; omega
        clear hb1
        go_wp2_with fail
        refine (HI.out _).mono ?_
        rintro e w2 ⟨rfl, rfl⟩
        have HF := Lib.hid (hf.out _ HB1.out HVV.out hm2)
        go_wp2_with fail
        refine HF.out.mono ?_
        rintro e w3 ⟨rfl, hb3⟩
        have HB3 := Lib.hid (bnext HB1.out hb3 (Nat.le_refl _))
        replace bx0 := (bcell1 hb3 hz1).trans bx0
        replace bx1 := (bcell1 hb3 hz1).trans bx1
        clear hb3
        have HBU := Lib.hid (build_c K ao co os mode w3 (HO.out.below HB3.out) hc HPG.out hm2)
        go_wp2_with fail
        refine HBU.out.mono ?_
        rintro e w4 ⟨gb, v, G, vf, Gf, rfl, hst, hb4⟩
        have HT := Lib.hid (isTooGreat_c hst hk (by omega))
        have HB4 := Lib.hid (bnext HB3.out hb4 (Nat.le_refl _))
        clear hst hb4 HBU
        cases ht : (decide (8 < kindsN K os mode) || decide (8 < (rulesS K os mode).length))
        · rw [ht] at HT HE
          clear ht
          go_wp2_with fail
          refine HT.out.mono ?_
          rintro e w5 ⟨rfl, rfl⟩
          go_wp2
          go_ret
          exact ⟨ret_int HE.out.symm, HB4.out⟩
        · rw [ht] at HT HE
          clear ht
          go_wp2_with fail
          refine HT.out.mono ?_
          rintro e w5 ⟨rfl, rfl⟩
          go_wp2
          go_ret
          exact ⟨ret_int HE.out.symm, HB4.out⟩
theorem RetAK.zero {w w1 : World} {b : Nat} (h : Below w.heap.size w w1) (hb : w.heap.size ≤ b) (code : Int) :
    RetAK w [.i 0, dI [], dRul []] code (.returned (.tuple #[.agg #[.int .i64 0, .slice none 0 0, .slice none 0 0], .int .i64 code])) (((w1.setCell ⟨b, 0, none⟩ (.int .i64 0)).setCell ⟨b, 1, none⟩ (.slice none 0 0)).setCell ⟨b, 2, none⟩ (.slice none 0 0)) :=
  ⟨[.int .i64 0, .slice none 0 0, .slice none 0 0], [], rfl, ((h.setCell hb _).setCell hb _).setCell hb _, ⟨[], [], ⟨rfl, rfl⟩, ⟨[], [], Ow_empty _ _ _ _, ⟨[], [], Ow_empty _ _ _ _, rfl, rfl⟩, rfl⟩, rfl⟩, by simp, by simp⟩
theorem OwA.three {w : World} {x : Int} {l : List Int} {r : List Rul} {vs : List Value} {F : List Nat} (h : OwA w [.i x, dI l, dRul r] vs F) : ∃ a1 n1 c1 a2 c2, vs = [.int .i64 x, .slice a1 n1 c1, .slice a2 r.length c2] := by
  match vs, h with
  | [a, b, c], h =>
    obtain ⟨F1, F2, ⟨rfl, _⟩, ⟨F3, F4, h2, ⟨F5, F6, h3, _⟩, _⟩, _⟩ := h
    obtain ⟨a1, c1, rfl⟩ := h2.val
    obtain ⟨a2, m2, c2, rfl, hl2, _⟩ := id h3
    rw [dRul_len] at hl2
    obtain rfl : m2 = r.length := by omega
    exact ⟨a1, _, c1, a2, c2, rfl⟩
  | [], h => exact h.elim
  | [_], h => obtain ⟨_, _, _, h2, _⟩ := h; exact h2.elim
  | [_, _], h => obtain ⟨_, _, _, ⟨_, _, _, h3, _⟩, _⟩ := h; exact h3.elim
  | _ :: _ :: _ :: _ :: _, h => obtain ⟨_, _, _, ⟨_, _, _, ⟨_, _, _, h4, _⟩, _⟩, _⟩ := h; exact h4.elim
theorem OwA.al {w : World} {ds : List D} {vs : List Value} {F : List Nat} (h : OwA w ds vs F) (o : Obj) : OwA (w.alloc o) ds vs F := OwA.stable _ _ _ (fun k hk => (below_alloc w o).block k (OwA.lt _ _ _ h k hk)) h
theorem Ow.capO {w : World} {os : List Ord} {v : Value} {F : List Nat} (h : Ow w (dO os) v F) : ∃ a c, v = .slice a os.length c ∧ os.length ≤ c ∧ SlO Any w a os := by
  have h0 := h
  obtain ⟨a, m, c, rfl, hl, hm, hh⟩ := h
  obtain ⟨rfl, hs⟩ := Ow.argO h0
  refine ⟨a, c, rfl, ?_, hs⟩
  rcases hh with ⟨e, _⟩ | ⟨g, o, F', _, ⟨_, hmc⟩, _⟩
  · have := congrArg List.length e
    rw [flat_len] at this
    simp only [List.length_nil] at this
    omega
  · exact hmc
/-- What was given back is put into a result. -/
theorem RetAK.put {w w1 : World} {b : Nat} {x : Int} {d1 d2 : D} {v1 v2 : Value} {F : List Nat} (h : Below w.heap.size w w1) (hb : w.heap.size ≤ b) (ho : OwA w1 [.i x, d1, d2] [.int .i64 x, v1, v2] F) (hn : F.Nodup) (hF : ∀ y, y ∈ F → w.heap.size ≤ y) (hbF : b ∉ F) (code : Int) :
    RetAK w [.i x, d1, d2] code (.returned (.tuple #[.agg #[.int .i64 x, v1, v2], .int .i64 code])) (((w1.setCell ⟨b, 0, none⟩ (.int .i64 x)).setCell ⟨b, 1, none⟩ v1).setCell ⟨b, 2, none⟩ v2) :=
  ⟨_, F, rfl, ((h.setCell hb _).setCell hb _).setCell hb _, ((ho.put1 hbF _).put1 hbF _).put1 hbF _, hn, hF⟩
theorem l05Mode_c (mode : Int) (w : World) : Calls Try.prog 126 #[.int .i64 mode] w (RetP w (.bool (inRg mode 1 3))) := by
  go_enter Try.func126, Try.ntmps126
  go_wp2_with fail
  refine (l00In_v rfl w).mono ?_
  rintro e w1 ⟨rfl, rfl⟩
  go_wp2
  go_ret
  exact ⟨rfl, rfl⟩
def codeSysS (R : Int) (os : List Ord) (mode : Int) (right : Bool) : Sys × Int :=
  if modeCodeS R os mode right = 0 then (((kindsN R.toNat os mode : Nat), [-1], rulesS R.toNat os mode), 0) else (zSys, modeCodeS R os mode right)
set_option maxHeartbeats 2000000 in
theorem l05Code_c (R : Int) (p : Nat) (ao : Option Addr) (co : Nat) (os : List Ord) (mode : Int) (right : Bool) (w : World) (ho : SlO Any w ao os) (hp0 : w.cell? ⟨p, 0, none⟩ = some (.int .i64 R)) (hp1 : w.cell? ⟨p, 1, none⟩ = some (.slice ao os.length co)) :
    Calls Try.prog 86 #[.pointer (some ⟨p, 0, none⟩), .int .i64 mode, .bool right] w (RetAK w [.i (codeSysS R os mode right).1.1, dI (codeSysS R os mode right).1.2.1, dRul (codeSysS R os mode right).1.2.2] (codeSysS R os mode right).2) := by
  have zp := World.block_lt_of_cell? w _ hp0
  have al := below_alloc w (.cells #[.int .i64 0, .slice none 0 0, .slice none 0 0] 120)
  have HOK := Lib.hid (l05Ok_c R Any ao co os p _ (ho.below al) ((bcell1 al zp).trans hp0) ((bcell1 al zp).trans hp1))
  have HMO := Lib.hid (fun w => l05Mode_c mode w)
  have HAL := Lib.hid al
  have HMD := Lib.hid (fun (K : Nat) (hR : R = K) (hpg : PgOk K os) (hm : 1 ≤ mode ∧ mode ≤ 3) wx (hb : Below w.heap.size w wx) => l05Made_c K p ao co os mode wx (ho.below hb) (by rw [← hR]; exact (bcell1 hb zp).trans hp0) ((bcell1 hb zp).trans hp1) hpg hm)
  clear ho hp0 hp1 al zp
  cases hv : validProgS R os
  · rw [hv] at HOK
    have hres : codeSysS R os mode right = (zSys, 1) := by rw [codeSysS, modeCodeS, hv]; rfl
    rw [hres]
    clear hv hres
    go_enter Try.func86, Try.ntmps86
    go_wp2_with fail
    refine HOK.out.mono ?_
    rintro e w1 ⟨rfl, hb1⟩
    have rr0 : w1.cell? ⟨w.heap.size, 0, none⟩ = some (.int .i64 0) := by rw [bcell1 hb1 (by simp <;> omega)]; simp [go_sem]
    have rz0 : w1.frozen? ⟨w.heap.size, 0, none⟩ = false := by rw [hb1.frozen (p := ⟨w.heap.size, 0, none⟩) (by simp <;> omega)]; simp [go_sem]
    have rr1 : w1.cell? ⟨w.heap.size, 1, none⟩ = some (.slice none 0 0) := by rw [bcell1 hb1 (by simp <;> omega)]; simp [go_sem]
    have rz1 : w1.frozen? ⟨w.heap.size, 1, none⟩ = false := by rw [hb1.frozen (p := ⟨w.heap.size, 1, none⟩) (by simp <;> omega)]; simp [go_sem]
    have rr2 : w1.cell? ⟨w.heap.size, 2, none⟩ = some (.slice none 0 0) := by rw [bcell1 hb1 (by simp <;> omega)]; simp [go_sem]
    have rz2 : w1.frozen? ⟨w.heap.size, 2, none⟩ = false := by rw [hb1.frozen (p := ⟨w.heap.size, 2, none⟩) (by simp <;> omega)]; simp [go_sem]
    have HB1 := Lib.hid (bnext HAL.out hb1 (Nat.le_refl _))
    clear hb1
    have sA := set3 w1 w.heap.size (.int .i64 0) (.slice none 0 0) (.slice none 0 0) rr0 rr1 rr2
    go_wp2
    refine bodyPost_ret (v := .tuple #[.agg #[.int .i64 0, .slice none 0 0, .slice none 0 0], .int .i64 1]) (by simp [results, Try.results86, go_sem, sA]) rfl ?_
    exact RetAK.zero HB1.out (Nat.le_refl _) 1
  · rw [hv] at HOK
    obtain ⟨K, rfl, hpg⟩ := PgOk.of hv
    cases hmr : (inRg mode 1 3 && right)
    · have hres : codeSysS K os mode right = (zSys, 2) := by rw [codeSysS, modeCodeS, if_pos hv, hmr]; rfl
      rw [hres]
      clear hv hres hpg
      cases hm : inRg mode 1 3
      · rw [hm] at HMO
        clear hm hmr
        go_enter Try.func86, Try.ntmps86
        go_wp2_with fail
        refine HOK.out.mono ?_
        rintro e w1 ⟨rfl, hb1⟩
        have rr0 : w1.cell? ⟨w.heap.size, 0, none⟩ = some (.int .i64 0) := by rw [bcell1 hb1 (by simp <;> omega)]; simp [go_sem]
        have rz0 : w1.frozen? ⟨w.heap.size, 0, none⟩ = false := by rw [hb1.frozen (p := ⟨w.heap.size, 0, none⟩) (by simp <;> omega)]; simp [go_sem]
        have rr1 : w1.cell? ⟨w.heap.size, 1, none⟩ = some (.slice none 0 0) := by rw [bcell1 hb1 (by simp <;> omega)]; simp [go_sem]
        have rz1 : w1.frozen? ⟨w.heap.size, 1, none⟩ = false := by rw [hb1.frozen (p := ⟨w.heap.size, 1, none⟩) (by simp <;> omega)]; simp [go_sem]
        have rr2 : w1.cell? ⟨w.heap.size, 2, none⟩ = some (.slice none 0 0) := by rw [bcell1 hb1 (by simp <;> omega)]; simp [go_sem]
        have rz2 : w1.frozen? ⟨w.heap.size, 2, none⟩ = false := by rw [hb1.frozen (p := ⟨w.heap.size, 2, none⟩) (by simp <;> omega)]; simp [go_sem]
        have HB1 := Lib.hid (bnext HAL.out hb1 (Nat.le_refl _))
        clear hb1
        have sA := set3 w1 w.heap.size (.int .i64 0) (.slice none 0 0) (.slice none 0 0) rr0 rr1 rr2
        go_wp2_with fail
        refine (HMO.out _).mono ?_
        rintro e w2 ⟨rfl, rfl⟩
        go_wp2
        refine bodyPost_ret (v := .tuple #[.agg #[.int .i64 0, .slice none 0 0, .slice none 0 0], .int .i64 2]) (by simp [results, Try.results86, go_sem, sA]) rfl ?_
        exact RetAK.zero HB1.out (Nat.le_refl _) 2
      · rw [hm] at HMO
        have hrt : right = false := by simpa [hm] using hmr
        subst hrt
        clear hm hmr
        go_enter Try.func86, Try.ntmps86
        go_wp2_with fail
        refine HOK.out.mono ?_
        rintro e w1 ⟨rfl, hb1⟩
        have rr0 : w1.cell? ⟨w.heap.size, 0, none⟩ = some (.int .i64 0) := by rw [bcell1 hb1 (by simp <;> omega)]; simp [go_sem]
        have rz0 : w1.frozen? ⟨w.heap.size, 0, none⟩ = false := by rw [hb1.frozen (p := ⟨w.heap.size, 0, none⟩) (by simp <;> omega)]; simp [go_sem]
        have rr1 : w1.cell? ⟨w.heap.size, 1, none⟩ = some (.slice none 0 0) := by rw [bcell1 hb1 (by simp <;> omega)]; simp [go_sem]
        have rz1 : w1.frozen? ⟨w.heap.size, 1, none⟩ = false := by rw [hb1.frozen (p := ⟨w.heap.size, 1, none⟩) (by simp <;> omega)]; simp [go_sem]
        have rr2 : w1.cell? ⟨w.heap.size, 2, none⟩ = some (.slice none 0 0) := by rw [bcell1 hb1 (by simp <;> omega)]; simp [go_sem]
        have rz2 : w1.frozen? ⟨w.heap.size, 2, none⟩ = false := by rw [hb1.frozen (p := ⟨w.heap.size, 2, none⟩) (by simp <;> omega)]; simp [go_sem]
        have HB1 := Lib.hid (bnext HAL.out hb1 (Nat.le_refl _))
        clear hb1
        have sA := set3 w1 w.heap.size (.int .i64 0) (.slice none 0 0) (.slice none 0 0) rr0 rr1 rr2
        go_wp2_with fail
        refine (HMO.out _).mono ?_
        rintro e w2 ⟨rfl, rfl⟩
        go_wp2
        refine bodyPost_ret (v := .tuple #[.agg #[.int .i64 0, .slice none 0 0, .slice none 0 0], .int .i64 2]) (by simp [results, Try.results86, go_sem, sA]) rfl ?_
        exact RetAK.zero HB1.out (Nat.le_refl _) 2
    · have hm : inRg mode 1 3 = true := by simp at hmr; exact hmr.1
      have hrt : right = true := by simp at hmr; exact hmr.2
      subst hrt
      rw [hm] at HMO
      have hm2 : 1 ≤ mode ∧ mode ≤ 3 := by simpa [inRg] using hm
      have HMDk := Lib.hid (HMD.out K rfl hpg hm2)
      have hk := (kindsN_le hpg mode).2
      have hl := rulesS_len K os mode
      have h6 := hpg.n6
      have hcs : modeCodeS K os mode true = if (decide (8 < kindsN K os mode) || decide (8 < (rulesS K os mode).length)) = true then 3 else 0 := by rw [modeCodeS, if_pos hv, hm]; simp [tooGreat]
      have hres : codeSysS K os mode true = if (decide (8 < kindsN K os mode) || decide (8 < (rulesS K os mode).length)) = true then (zSys, 3) else ((((kindsN K os mode : Nat) : Int), [-1], rulesS K os mode), 0) := by
        rw [codeSysS, hcs]; split <;> rfl
      rw [hres]
      obtain ⟨KK, hKK⟩ : ∃ KK, KK = kindsN K os mode := ⟨_, rfl⟩
      obtain ⟨RS, hRS⟩ : ∃ RS, RS = rulesS K os mode := ⟨_, rfl⟩
      rw [← hKK] at HMDk hk ⊢
      rw [← hRS] at HMDk hl ⊢
      clear hv hcs hres hpg hm hmr HMD hKK hRS
      by_cases hg1 : 8 < KK
      · rw [decide_eq_true hg1, Bool.true_or, if_pos rfl]
        go_enter Try.func86, Try.ntmps86
        go_wp2_with fail
        refine HOK.out.mono ?_
        rintro e w1 ⟨rfl, hb1⟩
        have rr0 : w1.cell? ⟨w.heap.size, 0, none⟩ = some (.int .i64 0) := by rw [bcell1 hb1 (by simp <;> omega)]; simp [go_sem]
        have rz0 : w1.frozen? ⟨w.heap.size, 0, none⟩ = false := by rw [hb1.frozen (p := ⟨w.heap.size, 0, none⟩) (by simp <;> omega)]; simp [go_sem]
        have rr1 : w1.cell? ⟨w.heap.size, 1, none⟩ = some (.slice none 0 0) := by rw [bcell1 hb1 (by simp <;> omega)]; simp [go_sem]
        have rz1 : w1.frozen? ⟨w.heap.size, 1, none⟩ = false := by rw [hb1.frozen (p := ⟨w.heap.size, 1, none⟩) (by simp <;> omega)]; simp [go_sem]
        have rr2 : w1.cell? ⟨w.heap.size, 2, none⟩ = some (.slice none 0 0) := by rw [bcell1 hb1 (by simp <;> omega)]; simp [go_sem]
        have rz2 : w1.frozen? ⟨w.heap.size, 2, none⟩ = false := by rw [hb1.frozen (p := ⟨w.heap.size, 2, none⟩) (by simp <;> omega)]; simp [go_sem]
        have hz1 : w.heap.size < w1.heap.size := by have := hb1.size; simp at this; omega
        have HB1 := Lib.hid (bnext HAL.out hb1 (Nat.le_refl _))
        clear hb1
        go_wp2_with fail
        refine (HMO.out _).mono ?_
        rintro e w2 ⟨rfl, rfl⟩
        go_wp2_with fail
        refine (HMDk.out _ HB1.out).mono ?_
        rintro e w2 ⟨vs, F2, rfl, hb2, ho2, hn2, hF2⟩
        obtain ⟨a1, n1, c1, a2, c2, rfl⟩ := ho2.three
        have HO2 := Lib.hid ho2
        have HB2 := Lib.hid (bnext HB1.out hb2 (Nat.le_refl _))
        have HN2 := Lib.hid hn2
        have HF2 := Lib.hid hF2
        replace rr0 := (bcell1 hb2 hz1).trans rr0
        replace rr1 := (bcell1 hb2 hz1).trans rr1
        replace rr2 := (bcell1 hb2 hz1).trans rr2
        replace rz0 := (hb2.frozen (p := ⟨w.heap.size, 0, none⟩) hz1).trans rz0
        replace rz1 := (hb2.frozen (p := ⟨w.heap.size, 1, none⟩) hz1).trans rz1
        replace rz2 := (hb2.frozen (p := ⟨w.heap.size, 2, none⟩) hz1).trans rz2
        have hz2 : w.heap.size < w2.heap.size := by have := hb2.size; omega
        have hz3 : ¬ w.heap.size = w2.heap.size := by omega
        have hz4 : ¬ w2.heap.size = w.heap.size := by omega
        clear hb2 ho2 hn2 hF2
        have hg0 : (8 : Int) < KK := by omega
        have sA := set3 w2 w.heap.size (.int .i64 0) (.slice none 0 0) (.slice none 0 0) rr0 rr1 rr2
        go_wp2
        refine bodyPost_ret (v := .tuple #[.agg #[.int .i64 0, .slice none 0 0, .slice none 0 0], .int .i64 3]) (by simp [results, Try.results86, go_sem, sA, hz2]) rfl ?_
        first
        | exact RetAK.zero (HB2.out.alloc HB2.out.size _) (Nat.le_refl _) 3
        | exact ⟨[.int .i64 0, .slice none 0 0, .slice none 0 0], [], rfl, by repeat (first | exact HB2.out | refine Below.setCell ?_ (by first | exact Nat.le_refl _ | (simp; omega)) _ | refine below_al ?_ _), ⟨[], [], ⟨rfl, rfl⟩, ⟨[], [], Ow_empty _ _ _ _, ⟨[], [], Ow_empty _ _ _ _, rfl, rfl⟩, rfl⟩, rfl⟩, by simp, by simp⟩
      · by_cases hg2 : 8 < RS.length
        · rw [decide_eq_true hg2, Bool.or_true, if_pos rfl]
          go_enter Try.func86, Try.ntmps86
          go_wp2_with fail
          refine HOK.out.mono ?_
          rintro e w1 ⟨rfl, hb1⟩
          have rr0 : w1.cell? ⟨w.heap.size, 0, none⟩ = some (.int .i64 0) := by rw [bcell1 hb1 (by simp <;> omega)]; simp [go_sem]
          have rz0 : w1.frozen? ⟨w.heap.size, 0, none⟩ = false := by rw [hb1.frozen (p := ⟨w.heap.size, 0, none⟩) (by simp <;> omega)]; simp [go_sem]
          have rr1 : w1.cell? ⟨w.heap.size, 1, none⟩ = some (.slice none 0 0) := by rw [bcell1 hb1 (by simp <;> omega)]; simp [go_sem]
          have rz1 : w1.frozen? ⟨w.heap.size, 1, none⟩ = false := by rw [hb1.frozen (p := ⟨w.heap.size, 1, none⟩) (by simp <;> omega)]; simp [go_sem]
          have rr2 : w1.cell? ⟨w.heap.size, 2, none⟩ = some (.slice none 0 0) := by rw [bcell1 hb1 (by simp <;> omega)]; simp [go_sem]
          have rz2 : w1.frozen? ⟨w.heap.size, 2, none⟩ = false := by rw [hb1.frozen (p := ⟨w.heap.size, 2, none⟩) (by simp <;> omega)]; simp [go_sem]
          have hz1 : w.heap.size < w1.heap.size := by have := hb1.size; simp at this; omega
          have HB1 := Lib.hid (bnext HAL.out hb1 (Nat.le_refl _))
          clear hb1
          go_wp2_with fail
          refine (HMO.out _).mono ?_
          rintro e w2 ⟨rfl, rfl⟩
          go_wp2_with fail
          refine (HMDk.out _ HB1.out).mono ?_
          rintro e w2 ⟨vs, F2, rfl, hb2, ho2, hn2, hF2⟩
          obtain ⟨a1, n1, c1, a2, c2, rfl⟩ := ho2.three
          have HO2 := Lib.hid ho2
          have HB2 := Lib.hid (bnext HB1.out hb2 (Nat.le_refl _))
          have HN2 := Lib.hid hn2
          have HF2 := Lib.hid hF2
          replace rr0 := (bcell1 hb2 hz1).trans rr0
          replace rr1 := (bcell1 hb2 hz1).trans rr1
          replace rr2 := (bcell1 hb2 hz1).trans rr2
          replace rz0 := (hb2.frozen (p := ⟨w.heap.size, 0, none⟩) hz1).trans rz0
          replace rz1 := (hb2.frozen (p := ⟨w.heap.size, 1, none⟩) hz1).trans rz1
          replace rz2 := (hb2.frozen (p := ⟨w.heap.size, 2, none⟩) hz1).trans rz2
          have hz2 : w.heap.size < w2.heap.size := by have := hb2.size; omega
          have hz3 : ¬ w.heap.size = w2.heap.size := by omega
          have hz4 : ¬ w2.heap.size = w.heap.size := by omega
          clear hb2 ho2 hn2 hF2
          have hg0 : ¬ (8 : Int) < KK := by omega
          have hg3 : (8 : Int) < RS.length := by omega
          have sA := set3 w2 w.heap.size (.int .i64 0) (.slice none 0 0) (.slice none 0 0) rr0 rr1 rr2
          go_wp2
          refine bodyPost_ret (v := .tuple #[.agg #[.int .i64 0, .slice none 0 0, .slice none 0 0], .int .i64 3]) (by simp [results, Try.results86, go_sem, sA, hz2]) rfl ?_
          first
          | exact RetAK.zero (HB2.out.alloc HB2.out.size _) (Nat.le_refl _) 3
          | exact ⟨[.int .i64 0, .slice none 0 0, .slice none 0 0], [], rfl, by repeat (first | exact HB2.out | refine Below.setCell ?_ (by first | exact Nat.le_refl _ | (simp; omega)) _ | refine below_al ?_ _), ⟨[], [], ⟨rfl, rfl⟩, ⟨[], [], Ow_empty _ _ _ _, ⟨[], [], Ow_empty _ _ _ _, rfl, rfl⟩, rfl⟩, rfl⟩, by simp, by simp⟩
        · rw [decide_eq_false hg1, decide_eq_false hg2, Bool.false_or, if_neg (by decide)]
          go_enter Try.func86, Try.ntmps86
          go_wp2_with fail
          refine HOK.out.mono ?_
          rintro e w1 ⟨rfl, hb1⟩
          have rr0 : w1.cell? ⟨w.heap.size, 0, none⟩ = some (.int .i64 0) := by rw [bcell1 hb1 (by simp <;> omega)]; simp [go_sem]
          have rz0 : w1.frozen? ⟨w.heap.size, 0, none⟩ = false := by rw [hb1.frozen (p := ⟨w.heap.size, 0, none⟩) (by simp <;> omega)]; simp [go_sem]
          have rr1 : w1.cell? ⟨w.heap.size, 1, none⟩ = some (.slice none 0 0) := by rw [bcell1 hb1 (by simp <;> omega)]; simp [go_sem]
          have rz1 : w1.frozen? ⟨w.heap.size, 1, none⟩ = false := by rw [hb1.frozen (p := ⟨w.heap.size, 1, none⟩) (by simp <;> omega)]; simp [go_sem]
          have rr2 : w1.cell? ⟨w.heap.size, 2, none⟩ = some (.slice none 0 0) := by rw [bcell1 hb1 (by simp <;> omega)]; simp [go_sem]
          have rz2 : w1.frozen? ⟨w.heap.size, 2, none⟩ = false := by rw [hb1.frozen (p := ⟨w.heap.size, 2, none⟩) (by simp <;> omega)]; simp [go_sem]
          have hz1 : w.heap.size < w1.heap.size := by have := hb1.size; simp at this; omega
          have HB1 := Lib.hid (bnext HAL.out hb1 (Nat.le_refl _))
          clear hb1
          go_wp2_with fail
          refine (HMO.out _).mono ?_
          rintro e w2 ⟨rfl, rfl⟩
          go_wp2_with fail
          refine (HMDk.out _ HB1.out).mono ?_
          rintro e w2 ⟨vs, F2, rfl, hb2, ho2, hn2, hF2⟩
          obtain ⟨a1, n1, c1, a2, c2, rfl⟩ := ho2.three
          have HO2 := Lib.hid ho2
          have HB2 := Lib.hid (bnext HB1.out hb2 (Nat.le_refl _))
          have HN2 := Lib.hid hn2
          have HF2 := Lib.hid hF2
          replace rr0 := (bcell1 hb2 hz1).trans rr0
          replace rr1 := (bcell1 hb2 hz1).trans rr1
          replace rr2 := (bcell1 hb2 hz1).trans rr2
          replace rz0 := (hb2.frozen (p := ⟨w.heap.size, 0, none⟩) hz1).trans rz0
          replace rz1 := (hb2.frozen (p := ⟨w.heap.size, 1, none⟩) hz1).trans rz1
          replace rz2 := (hb2.frozen (p := ⟨w.heap.size, 2, none⟩) hz1).trans rz2
          have hz2 : w.heap.size < w2.heap.size := by have := hb2.size; omega
          have hz3 : ¬ w.heap.size = w2.heap.size := by omega
          have hz4 : ¬ w2.heap.size = w.heap.size := by omega
          clear hb2 ho2 hn2 hF2
          have hg0 : ¬ (8 : Int) < KK := by omega
          have hg3 : ¬ (8 : Int) < RS.length := by omega
          have sA := set3 w2 w.heap.size (.int .i64 KK) (.slice a1 n1 c1) (.slice a2 RS.length c2) rr0 rr1 rr2
          go_wp2
          refine bodyPost_ret (v := .tuple #[.agg #[.int .i64 KK, .slice a1 n1 c1, .slice a2 RS.length c2], .int .i64 0]) (by simp [results, Try.results86, go_sem, sA, hz2]) rfl ?_
          have hbF : w.heap.size ∉ _ := fun e => by have := HF2.out _ e; omega
          refine ⟨[.int .i64 KK, .slice a1 n1 c1, .slice a2 RS.length c2], _, rfl, ?_, ?_, HN2.out, fun y hy => by have := HF2.out y hy; omega⟩
          · repeat (first | exact HB2.out | refine Below.setCell ?_ (by first | exact Nat.le_refl _ | (simp; omega)) _ | refine below_al ?_ _)
          · repeat (first | exact HO2.out | refine OwA.al ?_ _ | refine OwA.put1 ?_ hbF _)
