/- The bag with a text: the program's functions. Written by mkni.py. -/
import Derived.Test.YtbnikblhnibgiaaDoorJH
namespace Go.Proofs.YtbnikblhnibgiaaDoor
open Go.RowKit
theorem Bld.slIZ {E : Nat} {w : World} {B g n c : Nat} {xs : List Int} (h : Bld E w B (.slice (some ⟨g, 0, none⟩) n c) (xs.map (.int .i64))) (hl : xs.length ≤ maxLen) : SlI Any w (some ⟨g, 0, none⟩) xs := (SlI.ofBld h hl).any
/-- What is read, and a code. -/
def readBagS (kinds : Int) (s : Bs) : List Int × Int := if inRg kinds 1 8 = true then (match specRead kinds.toNat s with | some b => (b, 0) | none => ([], 5)) else ([], 2)
/-- What is folded is looked at. -/
def chkO (s : Bs) : Option (List Int) → Option (List Int)
  | none => none
  | some b => checkB s b
theorem progRead_ne {kinds : Nat} {s : Bs} (h : ¬ s = [45]) : progRead kinds s = chkO s (pfold kinds (cutL 32 s) (List.replicate kinds 0)) := by
  rw [progRead, if_neg h]
  cases pfold kinds (cutL 32 s) (List.replicate kinds 0) <;> rfl
theorem sstep_len {kinds : Nat} {b : List Int} {nx : Nat} {w : Bs} {b' : List Int} {n' : Nat} (h : sstep kinds b nx w = some (b', n')) : b'.length = b.length := by
  cases w with
  | nil => cases h
  | cons c t =>
    obtain ⟨k, m, _, _, _, _, _, _, rfl, _⟩ := word_back h
    simp
theorem sfold_len {kinds : Nat} : ∀ {ws : List Bs} {b : List Int} {nx : Nat} {b' : List Int}, sfold kinds ws b nx = some b' → b'.length = b.length
  | [], b, nx, b', h => by simp only [sfold, Option.some.injEq] at h; rw [h]
  | w :: r, b, nx, b', h => by
    rw [sfold] at h
    cases hw : sstep kinds b nx w with
    | none => rw [hw] at h; cases h
    | some p =>
      rw [hw] at h
      rw [sfold_len h, sstep_len hw]
theorem specRead_len {kinds : Nat} {s : Bs} {b : List Int} (h : specRead kinds s = some b) : b.length = kinds := by
  unfold specRead at h
  split at h
  · cases h; simp
  · rw [sfold_len h]; simp
theorem readBagS_cnt (k : Int) (s : Bs) : cnt (dI (readBagS k s).1) ≤ 8 := by
  rw [cnt_dI]
  unfold readBagS
  by_cases hi : inRg k 1 8 = true
  · rw [if_pos hi]
    cases h : specRead k.toNat s with
    | none => simp
    | some b =>
      have := specRead_len h
      simp [inRg] at hi
      simp only; omega
  · rw [if_neg hi]; simp
theorem ps_empty {kinds : Nat} {b : List Int} {y : ByteArray} (h : y.size < 1) : pstep kinds b y.data.toList = none := by
  have : y.data.toList = [] := List.length_eq_zero_iff.1 (by rw [← sizeL]; omega)
  rw [this]; rfl
theorem ps_bad {kinds : Nat} {b : List Int} {y : ByteArray} (h : 1 ≤ y.size) (hb : ¬ (97 ≤ bAt y 0 ∧ bAt y 0 < 97 + kinds)) : pstep kinds b y.data.toList = none := by
  rw [split1 h, pstep, show (y.data.toList.getD 0 0).toNat = bAt y 0 from rfl, if_neg hb]
theorem ps_ok {kinds : Nat} {b : List Int} {y : ByteArray} (h : 1 ≤ y.size) (hb : 97 ≤ bAt y 0 ∧ bAt y 0 < 97 + kinds) : pstep kinds b y.data.toList = some (b.set (bAt y 0 - 97) (if y.size = 1 then 1 else pvS (y.extract 1 y.size).data.toList)) := by
  rw [split1 h, pstep, show (y.data.toList.getD 0 0).toNat = bAt y 0 from rfl, if_pos hb]
  by_cases e : y.size = 1
  · rw [if_pos e, if_pos ((tail_nil h).2 e)]
  · rw [if_neg e, if_neg (fun x => e ((tail_nil h).1 x))]
theorem i2u8 {P : Program} (q : Nat) (T : TypeId) {E : TypeId} (g kinds : Nat) (hT : P.underlying T = some (.slice E)) (hE : (P.info? E).map (·.size) = some 1) (h : q < kinds) (w' : World) :
    (Instr.indexAt T (.slice (some ⟨g, 0, none⟩) kinds kinds) (.int .u8 (q : Int))).run P w' = .ok (.pointer (some ⟨g, q, none⟩)) w' := by
  have h2 : (Instr.indexAt T (.slice (some ⟨g, 0, none⟩) kinds kinds) (.int .u8 (q : Int))).run P w' = (Instr.indexAt T (.slice (some ⟨g, 0, none⟩) kinds kinds) (.int .i64 (q : Int))).run P w' := by
    simp [Instr.indexAt, asIntOf, run_underlying hT, h]
  rw [h2, ix_of hT hE (a := some ⟨g, 0, none⟩) (n := kinds) (fun _ => ⟨g, 0, rfl⟩) kinds q w' (by omega) (by omega)]
  simp [adr, blk, ofs]
theorem specReadBag_d (kinds : Int) (s : ByteArray) (w : World) (hs : s.size ≤ 2097152) :
    Calls Tryd.prog 6 #[.int .i64 kinds, .string s] w (RetDC w (dI (readBagS kinds s.data.toList).1) (readBagS kinds s.data.toList).2) := by
  have I := l00In_c kinds 1 8 w
  cases hi : inRg kinds 1 8
  · rw [readBagS, if_neg (by rw [hi]; simp)]
    rw [hi] at I
    replace I := Lib.hid I
    clear hi
    go_enter Tryd.func6, Tryd.ntmps6
    go_wp2_with fail
    refine I.out.mono ?_
    rintro e w1 ⟨rfl, rfl⟩
    go_wp2
    go_ret2
    exact RetDC.none _ _ _ (below_alloc _ _)
  · rw [readBagS, if_pos hi]
    rw [hi] at I
    obtain ⟨k, rfl⟩ : ∃ k : Nat, kinds = k := ⟨kinds.toNat, by simp [inRg] at hi; omega⟩
    have C := Lib.hid (l01Read_c k s hs (by simp [inRg] at hi; omega) w)
    rw [Int.toNat_natCast]
    obtain ⟨R, hR⟩ : ∃ R, R = specRead k s.data.toList := ⟨_, rfl⟩
    rw [← hR] at C ⊢
    replace I := Lib.hid I
    clear hi hR
    go_enter Tryd.func6, Tryd.ntmps6
    go_wp2_with fail
    refine I.out.mono ?_
    rintro e w1 ⟨rfl, rfl⟩
    go_wp2_with fail
    refine C.out.mono ?_
    rintro e w2 (⟨rfl, v, rfl, hb2⟩ | ⟨b, v, F, rfl, rfl, hb2, ho, hn, hF⟩)
    · have HB := Lib.hid hb2
      clear hb2
      go_wp2
      go_ret2
      exact RetDC.none _ _ _ (HB.out.alloc HB.out.size _)
    · have HB := Lib.hid hb2
      have HO := Lib.hid ho
      have HF := Lib.hid hF
      have HN := Lib.hid hn
      obtain ⟨a, c, rfl, _⟩ := Ow_I.1 ho
      clear hb2 ho hF hn
      go_wp2
      go_ret2
      exact ⟨_, F, rfl, HB.out, HO.out, HN.out, HF.out⟩
set_option maxHeartbeats 3000000 in
set_option maxRecDepth 100000 in
theorem readBag_c (kinds : Nat) (s : ByteArray) (hs : s.size ≤ 2097152) (hk : 1 ≤ kinds ∧ kinds ≤ 8) (w : World) (hlib : LibOk w) :
    Calls Tryd.prog 25 #[.int .i64 kinds, .string s] w (RdB w (progRead kinds s.data.toList)) := by
  have HLIB := Lib.hid hlib
  clear hlib
  have htl : s.toList = s.data.toList := ByteArray.toList_eq s
  obtain ⟨R, hR⟩ : ∃ R, R = progRead kinds s.data.toList := ⟨_, rfl⟩
  rw [← hR]
  by_cases hm : s.data.toList = [45]
  · have h1 : (s.toList == [45]) = true := by rw [htl, hm]; rfl
    have h1n : (!(s.toList == [45])) = false := by rw [h1]; rfl
    obtain ⟨b, hb0⟩ : ∃ b, b = List.replicate kinds (0 : Int) := ⟨_, rfl⟩
    have HP : Hid (R = checkB s.data.toList b) := Lib.hid (by rw [hR, progRead, if_pos hm, hb0])
    have HL : Hid (b.length = kinds) := Lib.hid (by rw [hb0]; simp)
    clear htl hm hR
    go_enter Tryd.func25, Tryd.ntmps25
    go_wp2_with (at_make; refine make_one rfl _ _ 22 rfl tabI rfl (by decide) kinds _ _ rfl rfl rfl rfl (by omega) w.heap.size (Nat.le_refl _) ?_)
    intro w1 hbl1 hb1 hz1
    have HBD : Hid (Bld 2 w1 w.heap.size (.slice (some ⟨w.heap.size, 0, none⟩) kinds kinds) (b.map (.int .i64))) := Lib.hid (by rw [hb0, List.map_replicate]; exact hbl1)
    have HBX := Lib.hid hb1
    clear hbl1 hb1 hb0
    have hxb := HBD.out.slIZ (by have := HL.out; unfold maxLen; omega)
    have I := isBag_c Any (some ⟨w.heap.size, 0, none⟩) kinds b w1 hxb
    have T := fun h8 hb hp => bagText_c (some ⟨w.heap.size, 0, none⟩) kinds b w1 hxb h8 hb hp
    rw [HL.out] at I T
    cases hv : isBagS b
    · rw [hv] at I
      have HR : Hid (R = none) := Lib.hid (by rw [HP.out, checkB, if_neg (by rw [hv]; simp)])
      replace I := Lib.hid I
      clear T hv hxb
      go_wp2_with fail
      refine I.out.mono ?_
      rintro e w8 ⟨rfl, rfl⟩
      go_wp2
      go_ret2
      exact .inl ⟨HR.out, _, rfl, HBX.out⟩
    · obtain ⟨h8, hb⟩ := isBagS_ok hv
      have HTL : Hid ((bagTextT b).toList = bagL b) := Lib.hid (by rw [ByteArray.toList_eq]; exact bagT_L hb)
      rw [hv] at I
      replace T := Lib.hid (T (by have := HL.out; omega) hb (HLIB.out.below HBX.out).pow)
      replace I := Lib.hid I
      have hsl : s.toList = s.data.toList := ByteArray.toList_eq s
      obtain ⟨t, ht⟩ : ∃ t, t = bagTextT b := ⟨_, rfl⟩
      rw [← ht] at T HTL
      by_cases he : bagL b = s.data.toList
      · have HR : Hid (R = some b) := Lib.hid (by rw [HP.out, checkB, if_pos ⟨hv, he⟩])
        have hte : t.toList = s.toList := by rw [HTL.out, hsl, he]
        clear hsl he ht HTL hb h8 hv hxb
        go_wp2_with fail
        refine I.out.mono ?_
        rintro e w8 ⟨rfl, rfl⟩
        go_wp2_with fail
        refine T.out.mono ?_
        rintro e w9 ⟨rfl, hb9⟩
        have HB9 := Lib.hid (bnext HBX.out hb9 (Nat.le_refl _))
        have HBD9 := Lib.hid (HBD.out.below hb9)
        clear hb9
        go_wp2
        go_ret2
        exact RdB.some HR.out (by rw [HL.out]; exact hk.2) HL.out.symm HB9.out HBD9.out
      · have HR : Hid (R = none) := Lib.hid (by rw [HP.out, checkB, if_neg (fun h => he h.2)])
        have hte : (t.toList == s.toList) = false := by rw [HTL.out, hsl]; simpa using he
        clear hsl he ht HTL hb h8 hv hxb
        go_wp2_with fail
        refine I.out.mono ?_
        rintro e w8 ⟨rfl, rfl⟩
        go_wp2_with fail
        refine T.out.mono ?_
        rintro e w9 ⟨rfl, hb9⟩
        have HB9 := Lib.hid (bnext HBX.out hb9 (Nat.le_refl _))
        clear hb9
        go_wp2
        go_ret2
        exact .inl ⟨HR.out, _, rfl, HB9.out⟩
  have h1 : (s.toList == [45]) = false := by rw [htl]; simpa using hm
  have HR0 : Hid (R = chkO s.data.toList (pfold kinds (cutL 32 s.data.toList) (List.replicate kinds 0))) := Lib.hid (by rw [hR, progRead_ne hm])
  clear htl hm hR
  go_enter Tryd.func25, Tryd.ntmps25
  go_wp2_with (at_make; refine make_one rfl _ _ 22 rfl tabI rfl (by decide) kinds _ _ rfl rfl rfl rfl (by omega) w.heap.size (Nat.le_refl _) ?_)
  intro w1 hbl1 hb1 hz1
  have HB1 : Hid (Bld 2 w1 w.heap.size (.slice (some ⟨w.heap.size, 0, none⟩) kinds kinds) ((List.replicate kinds (0 : Int)).map (.int .i64))) := Lib.hid (by rw [List.map_replicate]; exact hbl1)
  have HW1 := Lib.hid hb1
  have C := Lib.hid (split_c s 32 hs w1 (HLIB.out.below hb1))
  clear hbl1 hb1
  go_wp2_with fail
  refine C.out.mono ?_
  rintro e w2 ⟨ws, hws, hw1, hwl, rfl, hw2⟩
  have hgB : w1.heap.size < w2.heap.size := by rw [hw2]; simp
  have hb2 : Below w1.heap.size w1 w2 := by rw [hw2]; exact below_alloc _ _
  have hcell : ∀ j, j < ws.length → w2.cell? ⟨w1.heap.size, j, none⟩ = some (.string (nthBA ws j)) := fun j hj => by
    rw [hw2]; simp [go_sem, nthBA, hj]
  have HW2 := Lib.hid (bnext HW1.out hb2 (Nat.le_refl _))
  have HB2 := Lib.hid (HB1.out.below hb2)
  have HWS := Lib.hid hws
  have HCL := Lib.hid hcell
  obtain ⟨gw, hgw⟩ : ∃ gw, gw = w1.heap.size := ⟨_, rfl⟩
  rw [← hgw] at HCL hgB ⊢
  have hgn : gw ≠ w.heap.size := by omega
  have HZ : Hid (w.heap.size < w2.heap.size) := Lib.hid (by omega)
  obtain ⟨n, hn⟩ : ∃ n, n = ws.length := ⟨_, rfl⟩
  have iw := ix_of (P := Tryd.prog) tabStr.under tabStr.size (a := some ⟨gw, 0, none⟩) (n := n) (fun _ => ⟨gw, 0, rfl⟩) n
  simp only [Nat.mul_one, adr, blk, ofs, Nat.zero_add] at iw
  have i2 := ix_of (P := Tryd.prog) tabI.under tabI.size (a := some ⟨w.heap.size, 0, none⟩) (n := kinds) (fun _ => ⟨w.heap.size, 0, rfl⟩) kinds
  simp only [Nat.mul_one, adr, blk, ofs, Nat.zero_add] at i2
  have HN := Lib.hid hn
  have hn2 : n ≤ 2097153 := by omega
  rw [← hn]
  clear hws hcell hb2 C HW1 HB1 hn hwl hw1 hw2 hgw hz1
  go_wp2
  go_loopw [17] (fun i wr => ∃ (k : Nat) (b : List Int), k ≤ n ∧ i = .int .i64 k ∧ Hid (b.length = kinds) ∧ Hid (R = chkO s.data.toList (pfold kinds ((cutL 32 s.data.toList).drop k) b)) ∧ Hid (Below w.heap.size w wr) ∧ Hid (Chg [w.heap.size] w2 wr) ∧ Hid (Bld 2 wr w.heap.size (.slice (some ⟨w.heap.size, 0, none⟩) kinds kinds) (b.map (.int .i64)))) (fun i _ => n - (intOf i).toNat)
  case atStart => exact ⟨0, List.replicate kinds 0, Nat.zero_le _, rfl, Lib.hid (by simp), Lib.hid (by rw [HR0.out]; rfl), HW2, Lib.hid (Chg.refl _ _), HB2⟩
  case round =>
    obtain ⟨k, b, hkn, rfl, HL, HRK, HBX, HCX, HBD⟩ := hrel
    by_cases hlt : k < n
    · have hlt2 : (k : Int) < n := by omega
      have jw := fun w' => iw k w' (by omega) hlt2
      simp only [Int.toNat_natCast] at jw
      have g0 := (HCX.out.cell hgB (by simp; exact hgn) k).trans (HCL.out k (by rw [← HN.out]; exact hlt))
      have hdr := words_at HWS.out (k := k) (by rw [← HN.out]; exact hlt)
      have hys := word_size HWS.out (k := k) (by rw [← HN.out]; exact hlt)
      obtain ⟨y, hy⟩ : ∃ y, y = nthBA ws k := ⟨_, rfl⟩
      rw [← hy] at g0 hdr hys
      have hy2 : y.size ≤ 2097152 := by omega
      have HR1 : Hid (R = chkO s.data.toList (pfold kinds (y.data.toList :: (cutL 32 s.data.toList).drop (k + 1)) b)) := Lib.hid (by rw [HRK.out, hdr])
      clear hy hdr hys HRK
      by_cases e0 : y.size < 1
      · have hl0 : y.toList = [] := toList_nil (by omega)
        have HR : Hid (R = none) := Lib.hid (by rw [HR1.out, pfold, ps_empty e0]; rfl)
        go_wp2
        go_ret2
        exact .inl ⟨HR.out, _, rfl, HBX.out⟩
      have hl0 : y.toList ≠ [] := toList_ne (by omega)
      have hl1 : (y.toList == []) = false := by simpa using hl0
      have j0 := fun w' => idxS (P := Tryd.prog) Tryd.underlying9 y 0 (by omega) w'
      simp only [Int.natCast_zero] at j0
      have hbad := fun h => ps_bad (kinds := kinds) (b := b) (y := y) (by omega) h
      have hok := fun h2 => ps_ok (kinds := kinds) (b := b) (y := y) (by omega) h2
      obtain ⟨c, hc⟩ : ∃ c, c = bAt y 0 := ⟨_, rfl⟩
      have hc256 : c < 256 := by rw [hc]; exact bAt_lt y 0
      rw [← hc] at j0 hbad hok
      have HBAD := Lib.hid hbad
      have HOK := Lib.hid hok
      clear hbad hok hc
      have I := inRange_c (c : Int) 97 (97 + (kinds : Int) - 1)
      by_cases e1 : 97 ≤ c ∧ c < 97 + kinds
      rotate_left
      · have e1' : inRg (c : Int) 97 (97 + (kinds : Int) - 1) = false := by simp [inRg]; omega
        rw [e1'] at I
        replace I := Lib.hid I
        have HR : Hid (R = none) := Lib.hid (by rw [HR1.out, pfold, HBAD.out e1]; rfl)
        clear e1'
        go_wp2_with fail
        refine (I.out _).mono ?_
        rintro e w4 ⟨rfl, rfl⟩
        go_wp2
        go_ret2
        exact .inl ⟨HR.out, _, rfl, HBX.out⟩
      have e1' : inRg (c : Int) 97 (97 + (kinds : Int) - 1) = true := by simp [inRg]; omega
      rw [e1'] at I
      replace I := Lib.hid I
      have e3 : IntKind.u8.wrap ((c : Int) - 97) = c - 97 := by simp [IntKind.wrap, IntKind.bits, IntKind.signed]; omega
      obtain ⟨q, hq⟩ : ∃ q : Nat, c = q + 97 := ⟨c - 97, by omega⟩
      have e4 : (c : Int) - 97 = q := by omega
      rw [e4] at e3
      have hqk : (q : Int) < kinds := by omega
      have jq := fun w' => i2u8 q 22 w.heap.size kinds Tryd.underlying22 tabI.size (by omega) w'
      have HQ : Hid (c - 97 = q) := Lib.hid (by omega)
      have HOK2 := Lib.hid (HOK.out e1)
      have hqb : q < kinds := by omega
      clear e1' HOK HBAD hq e1 hqk
      by_cases e6 : y.size = 1
      · have e6' : ¬ (1 : Int) < y.size := by omega
        have HR : Hid (R = chkO s.data.toList (pfold kinds ((cutL 32 s.data.toList).drop (k + 1)) (b.set q 1))) := Lib.hid (by rw [HR1.out, pfold, HOK2.out, HQ.out, if_pos e6])
        have g1 := HBD.out.atZ (i := q) (by have := HL.out; omega)
        have g2 := HBD.out.free q
        have HCS : Hid (Chg [w.heap.size] w2 (wr.setCell ⟨w.heap.size, q, none⟩ (.int .i64 1))) := Lib.hid (HCX.out.trans (Exc.setCell wr ⟨w.heap.size, q, none⟩ (.int .i64 1)).chg)
        have HBS := Lib.hid (HBD.out.setZ q (1))
        have HWS : Hid (Below w.heap.size w (wr.setCell ⟨w.heap.size, q, none⟩ (.int .i64 1))) := Lib.hid (HBX.out.setCell (Nat.le_refl _) _)
        clear e6
        go_wp2_with fail
        refine (I.out _).mono ?_
        rintro e w4 ⟨rfl, rfl⟩
        go_wp2
        go_roundw
        case rel => exact ⟨k + 1, b.set q 1, by omega, by go_num, Lib.hid (by rw [List.length_set]; exact HL.out), HR, HWS, HCS, HBS⟩
        case measure => simp [intOf]; omega
      have e6' : (1 : Int) < y.size := by omega
      have jl := fun w' => sliceS_from (P := Tryd.prog) Tryd.underlying9 y 1 (by omega) w'
      simp only [Int.natCast_one] at jl
      have hts : (y.extract 1 y.size).size ≤ 2097152 := by rw [ByteArray.size_extract]; omega
      obtain ⟨t, ht⟩ : ∃ t, t = y.extract 1 y.size := ⟨_, rfl⟩
      rw [← ht] at jl hts HOK2
      have C := parse_c t hts wr (HLIB.out.below HBX.out)
      obtain ⟨x, hx⟩ : ∃ x, x = pvS t.data.toList := ⟨_, rfl⟩
      rw [← hx] at C HOK2
      replace C := Lib.hid C
      clear ht hx
      go_wp2_with fail
      refine (I.out _).mono ?_
      rintro e w4 ⟨rfl, rfl⟩
      go_wp2_with fail
      refine C.out.mono ?_
      rintro e w3 ⟨er, rfl, hb3⟩
      have HBX3 := Lib.hid (bnext HBX.out hb3 (Nat.le_refl _))
      have HCX3 := Lib.hid (HCX.out.trans (Chg.ofBelow hb3))
      have HBD3 := Lib.hid (HBD.out.below hb3)
      clear hb3 C
      have HR : Hid (R = chkO s.data.toList (pfold kinds ((cutL 32 s.data.toList).drop (k + 1)) (b.set q x))) := Lib.hid (by rw [HR1.out, pfold, HOK2.out, HQ.out, if_neg e6])
      have g1 := HBD3.out.atZ (i := q) (by have := HL.out; omega)
      have g2 := HBD3.out.free q
      have HCS : Hid (Chg [w.heap.size] w2 (w3.setCell ⟨w.heap.size, q, none⟩ (.int .i64 x))) := Lib.hid (HCX3.out.trans (Exc.setCell w3 ⟨w.heap.size, q, none⟩ (.int .i64 x)).chg)
      have HBS := Lib.hid (HBD3.out.setZ q (x))
      have HWS : Hid (Below w.heap.size w (w3.setCell ⟨w.heap.size, q, none⟩ (.int .i64 x))) := Lib.hid (HBX3.out.setCell (Nat.le_refl _) _)
      clear e6
      go_wp2
      go_roundw
      case rel => exact ⟨k + 1, b.set q x, by omega, by go_num, Lib.hid (by rw [List.length_set]; exact HL.out), HR, HWS, HCS, HBS⟩
      case measure => simp [intOf]; omega
    · obtain rfl : k = n := by omega
      have HP : Hid (R = checkB s.data.toList b) := Lib.hid (by
        rw [HRK.out, List.drop_of_length_le (by rw [← HWS.out, List.length_map, ← HN.out]; exact Nat.le_refl _)]; rfl)
      have hxb := HBD.out.slIZ (by have := HL.out; unfold maxLen; omega)
      have I := isBag_c Any (some ⟨w.heap.size, 0, none⟩) kinds b wr hxb
      have T := fun h8 hb hp => bagText_c (some ⟨w.heap.size, 0, none⟩) kinds b wr hxb h8 hb hp
      rw [HL.out] at I T
      cases hv : isBagS b
      · rw [hv] at I
        have HR : Hid (R = none) := Lib.hid (by rw [HP.out, checkB, if_neg (by rw [hv]; simp)])
        replace I := Lib.hid I
        clear T hv hxb
        go_wp2_with fail
        refine I.out.mono ?_
        rintro e w8 ⟨rfl, rfl⟩
        go_wp2
        go_ret2
        exact .inl ⟨HR.out, _, rfl, HBX.out⟩
      · obtain ⟨h8, hb⟩ := isBagS_ok hv
        have HTL : Hid ((bagTextT b).toList = bagL b) := Lib.hid (by rw [ByteArray.toList_eq]; exact bagT_L hb)
        rw [hv] at I
        replace T := Lib.hid (T (by have := HL.out; omega) hb (HLIB.out.below HBX.out).pow)
        replace I := Lib.hid I
        have hsl : s.toList = s.data.toList := ByteArray.toList_eq s
        obtain ⟨t, ht⟩ : ∃ t, t = bagTextT b := ⟨_, rfl⟩
        rw [← ht] at T HTL
        by_cases he : bagL b = s.data.toList
        · have HR : Hid (R = some b) := Lib.hid (by rw [HP.out, checkB, if_pos ⟨hv, he⟩])
          have hte : t.toList = s.toList := by rw [HTL.out, hsl, he]
          clear hsl he ht HTL hb h8 hv hxb
          go_wp2_with fail
          refine I.out.mono ?_
          rintro e w8 ⟨rfl, rfl⟩
          go_wp2_with fail
          refine T.out.mono ?_
          rintro e w9 ⟨rfl, hb9⟩
          have HB9 := Lib.hid (bnext HBX.out hb9 (Nat.le_refl _))
          have HBD9 := Lib.hid (HBD.out.below hb9)
          clear hb9
          go_wp2
          go_ret2
          exact RdB.some HR.out (by rw [HL.out]; exact hk.2) HL.out.symm HB9.out HBD9.out
        · have HR : Hid (R = none) := Lib.hid (by rw [HP.out, checkB, if_neg (fun h => he h.2)])
          have hte : (t.toList == s.toList) = false := by rw [HTL.out, hsl]; simpa using he
          clear hsl he ht HTL hb h8 hv hxb
          go_wp2_with fail
          refine I.out.mono ?_
          rintro e w8 ⟨rfl, rfl⟩
          go_wp2_with fail
          refine T.out.mono ?_
          rintro e w9 ⟨rfl, hb9⟩
          have HB9 := Lib.hid (bnext HBX.out hb9 (Nat.le_refl _))
          clear hb9
          go_wp2
          go_ret2
          exact .inl ⟨HR.out, _, rfl, HB9.out⟩
theorem implReadBag_d (kinds : Int) (s : ByteArray) (w : World) (hs : s.size ≤ 2097152) (hlib : LibOk w) :
    Calls Tryd.prog 7 #[.int .i64 kinds, .string s] w (RetDC w (dI (readBagS kinds s.data.toList).1) (readBagS kinds s.data.toList).2) := by
  have I := inRange_c kinds 1 8 w
  cases hi : inRg kinds 1 8
  · rw [readBagS, if_neg (by rw [hi]; simp)]
    rw [hi] at I
    replace I := Lib.hid I
    clear hi hlib
    go_enter Tryd.func7, Tryd.ntmps7
    go_wp2_with fail
    refine I.out.mono ?_
    rintro e w1 ⟨rfl, rfl⟩
    go_wp2
    go_ret2
    exact RetDC.none _ _ _ (Below.refl _ _)
  · rw [readBagS, if_pos hi]
    rw [hi] at I
    obtain ⟨k, rfl⟩ : ∃ k : Nat, kinds = k := ⟨kinds.toNat, by simp [inRg] at hi; omega⟩
    have hk : 1 ≤ k ∧ k ≤ 8 := by simp [inRg] at hi; omega
    have C := readBag_c k s hs hk w hlib
    rw [read_same hk.1 hk.2] at C
    rw [Int.toNat_natCast]
    obtain ⟨R, hR⟩ : ∃ R, R = specRead k s.data.toList := ⟨_, rfl⟩
    rw [← hR] at C ⊢
    replace C := Lib.hid C
    replace I := Lib.hid I
    clear hi hR hlib
    go_enter Tryd.func7, Tryd.ntmps7
    go_wp2_with fail
    refine I.out.mono ?_
    rintro e w1 ⟨rfl, rfl⟩
    go_wp2_with fail
    refine C.out.mono ?_
    rintro e w2 (⟨rfl, v, rfl, hb2⟩ | ⟨b, v, F, rfl, rfl, hb2, ho, hn, hF⟩)
    · have HB := Lib.hid hb2
      clear hb2
      go_wp2
      go_ret2
      exact RetDC.none _ _ _ HB.out
    · have HB := Lib.hid hb2
      have HO := Lib.hid ho
      have HF := Lib.hid hF
      have HN := Lib.hid hn
      obtain ⟨a, c, rfl, _⟩ := Ow_I.1 ho
      clear hb2 ho hF hn
      go_wp2
      go_ret2
      exact ⟨_, F, rfl, HB.out, HO.out, HN.out, HF.out⟩
end Go.Proofs.YtbnikblhnibgiaaDoor
