/- Contracts of the reference's and the laws' functions on programs. -/
import Derived.Test.YtbnikblhnibgiaaDoorQ
namespace Go.Proofs.YtbnikblhnibgiaaDoor
open Go.RowKit

theorem l00In_v {a b c : Int} {v : Bool} (h : inRg a b c = v) (w : World) : Calls Tryd.prog 22 #[.int .i64 a, .int .i64 b, .int .i64 c] w (RetP w (.bool v)) := by
  subst h; exact l00In_c a b c w
set_option maxHeartbeats 2000000 in
theorem l05Ok_c (R : Int) (S : Nat → Prop) (a : Option Addr) (c : Nat) (os : List Ord) (p : Nat) (w : World) (hx : SlO S w a os) (hp0 : w.cell? ⟨p, 0, none⟩ = some (.int .i64 R)) (hp1 : w.cell? ⟨p, 1, none⟩ = some (.slice a os.length c)) :
    Calls Tryd.prog 40 #[.pointer (some ⟨p, 0, none⟩)] w (RetV w (.bool (validProgS R os))) := by
  have l1 := hx.len
  unfold maxLen at l1
  have hpl : p < w.heap.size := World.block_lt_of_cell? w _ hp0
  cases h1 : inRg R 1 3
  · have H1 := Lib.hid h1
    have e : validProgS R os = false := by simp [validProgS, h1]
    rw [e]; clear e h1
    go_enter Tryd.func40, Tryd.ntmps40
    go_wp2_with fail
    refine (l00In_v H1.out _).mono ?_
    rintro e w' ⟨rfl, rfl⟩
    go_wp2
    go_ret
    exact ⟨rfl, Below.refl _ _⟩
  · have H1 := Lib.hid h1
    cases h2 : inRg os.length 1 6
    · have H2 := Lib.hid h2
      have e : validProgS R os = false := by simp [validProgS, h2]
      rw [e]; clear e h1 h2
      go_enter Tryd.func40, Tryd.ntmps40
      go_wp2_with fail
      refine (l00In_v H1.out _).mono ?_
      rintro e w' ⟨rfl, rfl⟩
      go_wp2_with fail
      refine (l00In_v H2.out _).mono ?_
      rintro e w' ⟨rfl, rfl⟩
      go_wp2
      go_ret
      exact ⟨rfl, Below.refl _ _⟩
    · have H2 := Lib.hid h2
      have hR : 1 ≤ R ∧ R ≤ 3 := by simpa [inRg] using h1
      have hn : os.length ≤ 6 := by simp [inRg] at h2; omega
      have e : validProgS R os = allO (okOrd R os.length) os := by simp [validProgS, h1, h2]
      rw [e]; clear e h1 h2
      have i1 := ixO hx c
      go_enter Tryd.func40, Tryd.ntmps40
      go_wp2_with fail
      refine (l00In_v H1.out _).mono ?_
      rintro e w' ⟨rfl, rfl⟩
      go_wp2_with fail
      refine (l00In_v H2.out _).mono ?_
      rintro e w' ⟨rfl, rfl⟩
      go_wp2
      go_loopw [4, 5] (fun i _ wr => ∃ k : Nat, k ≤ os.length ∧ i = .int .i64 k ∧ Below w.heap.size w wr ∧ (∀ j, j < k → okOrd R os.length (nthO os j) = true)) (fun i _ _ => os.length - (intOf i).toNat)
      case atStart => exact ⟨0, Nat.zero_le _, rfl, Below.refl _ _, by omega⟩
      case round =>
        obtain ⟨k, hk, rfl, hb, hj⟩ := hrel
        have HJ := Lib.hid hj
        clear hj
        have q0 : wr.cell? ⟨p, 0, none⟩ = some (.int .i64 R) := by rw [hb.cell (p := ⟨p, 0, none⟩) hpl]; exact hp0
        have q1 : wr.cell? ⟨p, 1, none⟩ = some (.slice a os.length c) := by rw [hb.cell (p := ⟨p, 1, none⟩) hpl]; exact hp1
        have hz := hb.size
        have hpr : p < wr.heap.size := by omega
        by_cases hlt : k < os.length
        · have hx' := hx.below hb
          have g0 := hx'.c0 k hlt
          have g1 := hx'.c1 k hlt
          have g2 := hx'.c2 k hlt
          have g3 := hx'.c3 k hlt
          have HB := Lib.hid hb
          clear hx' hb hp0 hp1
          cases b0 : inRg (nthO os k).op 1 3
          · have B0 := Lib.hid b0
            clear b0
            go_wp2
            go_quiet (with_reducible exact quietP (l00In_v B0.out _))
            go_wp2
            go_ret
            exact ⟨ret_bool (allO_false hlt (okOrd_a B0.out)).symm, HB.out.trans ((below_alloc _ _).mono hz |>.trans (below_drewN _ _ _))⟩
          · have B0 := Lib.hid b0
            clear b0
            cases b1 : inRg (nthO os k).reg 0 (R - 1)
            · have B1 := Lib.hid b1
              clear b1
              go_wp2
              go_quiet (first | with_reducible exact quietP (l00In_v B0.out _) | with_reducible exact quietP (l00In_v B1.out _))
              go_wp2
              go_ret
              exact ⟨ret_bool (allO_false hlt (okOrd_b hR.1 B1.out)).symm, HB.out.trans ((below_alloc _ _).mono hz |>.trans (below_drewN _ _ _))⟩
            · have B1 := Lib.hid b1
              clear b1
              cases b2 : inRg (nthO os k).to 0 os.length
              · have B2 := Lib.hid b2
                clear b2
                go_wp2
                go_quiet (first | with_reducible exact quietP (l00In_v B0.out _) | with_reducible exact quietP (l00In_v B1.out _) | with_reducible exact quietP (l00In_v B2.out _))
                go_wp2
                go_ret
                exact ⟨ret_bool (allO_false hlt (okOrd_c B2.out)).symm, HB.out.trans ((below_alloc _ _).mono hz |>.trans (below_drewN _ _ _))⟩
              · have B2 := Lib.hid b2
                clear b2
                cases b3 : inRg (nthO os k).els 0 os.length
                · have B3 := Lib.hid b3
                  clear b3
                  go_wp2
                  go_quiet (first | with_reducible exact quietP (l00In_v B0.out _) | with_reducible exact quietP (l00In_v B1.out _) | with_reducible exact quietP (l00In_v B2.out _) | with_reducible exact quietP (l00In_v B3.out _))
                  go_wp2
                  go_ret
                  exact ⟨ret_bool (allO_false hlt (okOrd_d B3.out)).symm, HB.out.trans ((below_alloc _ _).mono hz |>.trans (below_drewN _ _ _))⟩
                · have B3 := Lib.hid b3
                  clear b3
                  have he := okOrd_e B0.out B1.out B2.out B3.out
                  by_cases e0 : (nthO os k).op = 3
                  · have e0' : ((nthO os k).op == 3) = true := by simp [e0]
                    by_cases e1 : (nthO os k).reg = 0 ∧ (nthO os k).to = 0 ∧ (nthO os k).els = 0
                    · have e1' : ((nthO os k).reg != 0) = false := by simp [e1.1]
                      have e2' : ((nthO os k).to != 0) = false := by simp [e1.2.1]
                      have e3' : ((nthO os k).els != 0) = false := by simp [e1.2.2]
                      have HE := Lib.hid (show okOrd R os.length (nthO os k) = true by rw [he]; simp [e0, e1.1, e1.2.1, e1.2.2])
                      clear he e0 e1
                      go_wp2
                      go_quiet (first | with_reducible exact quietP (l00In_v B0.out _) | with_reducible exact quietP (l00In_v B1.out _) | with_reducible exact quietP (l00In_v B2.out _) | with_reducible exact quietP (l00In_v B3.out _))
                      go_wp2
                      go_roundw
                      case rel => exact ⟨k + 1, by omega, by go_num, HB.out.trans ((below_alloc _ _).mono hz |>.trans (below_drewN _ _ _)), upto HJ.out HE.out⟩
                      case measure => simp [intOf]; omega
                    · have HE := Lib.hid (show okOrd R os.length (nthO os k) = false by
                        rw [he, e0]
                        by_cases a1 : (nthO os k).reg = 0 <;> by_cases a2 : (nthO os k).to = 0 <;> by_cases a3 : (nthO os k).els = 0 <;> simp_all)
                      clear he e0
                      by_cases a1 : (nthO os k).reg = 0
                      · by_cases a2 : (nthO os k).to = 0
                        · have e1' : ((nthO os k).reg != 0) = false := by simp [a1]
                          have e2' : ((nthO os k).to != 0) = false := by simp [a2]
                          have e3' : ((nthO os k).els != 0) = true := by simp; intro a3; exact e1 ⟨a1, a2, a3⟩
                          clear e1 a1 a2
                          go_wp2
                          go_quiet (first | with_reducible exact quietP (l00In_v B0.out _) | with_reducible exact quietP (l00In_v B1.out _) | with_reducible exact quietP (l00In_v B2.out _) | with_reducible exact quietP (l00In_v B3.out _))
                          go_wp2
                          go_ret
                          exact ⟨ret_bool (allO_false hlt HE.out).symm, HB.out.trans ((below_alloc _ _).mono hz |>.trans (below_drewN _ _ _))⟩
                        · have e1' : ((nthO os k).reg != 0) = false := by simp [a1]
                          have e2' : ((nthO os k).to != 0) = true := by simp [a2]
                          clear e1 a1 a2
                          go_wp2
                          go_quiet (first | with_reducible exact quietP (l00In_v B0.out _) | with_reducible exact quietP (l00In_v B1.out _) | with_reducible exact quietP (l00In_v B2.out _) | with_reducible exact quietP (l00In_v B3.out _))
                          go_wp2
                          go_ret
                          exact ⟨ret_bool (allO_false hlt HE.out).symm, HB.out.trans ((below_alloc _ _).mono hz |>.trans (below_drewN _ _ _))⟩
                      · have e1' : ((nthO os k).reg != 0) = true := by simp [a1]
                        clear e1 a1
                        go_wp2
                        go_quiet (first | with_reducible exact quietP (l00In_v B0.out _) | with_reducible exact quietP (l00In_v B1.out _) | with_reducible exact quietP (l00In_v B2.out _) | with_reducible exact quietP (l00In_v B3.out _))
                        go_wp2
                        go_ret
                        exact ⟨ret_bool (allO_false hlt HE.out).symm, HB.out.trans ((below_alloc _ _).mono hz |>.trans (below_drewN _ _ _))⟩
                  · have e0' : ((nthO os k).op == 3) = false := by simp [e0]
                    have HE := Lib.hid (show okOrd R os.length (nthO os k) = true by rw [he]; simp [e0])
                    clear he e0
                    go_wp2
                    go_quiet (first | with_reducible exact quietP (l00In_v B0.out _) | with_reducible exact quietP (l00In_v B1.out _) | with_reducible exact quietP (l00In_v B2.out _) | with_reducible exact quietP (l00In_v B3.out _))
                    go_wp2
                    go_roundw
                    case rel => exact ⟨k + 1, by omega, by go_num, HB.out.trans ((below_alloc _ _).mono hz |>.trans (below_drewN _ _ _)), upto HJ.out HE.out⟩
                    case measure => simp [intOf]; omega
        · have HB := Lib.hid hb
          clear hb hp0 hp1
          go_wp2
          go_ret
          have e : k = os.length := by omega
          exact ⟨ret_bool (allO_true (e ▸ HJ.out)).symm, HB.out⟩
