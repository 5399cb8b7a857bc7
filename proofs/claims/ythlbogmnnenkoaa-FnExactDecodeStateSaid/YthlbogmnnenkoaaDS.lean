/- DecodeState: both functions. Written by mkds.py. -/
import Derived.Test.YthlbogmnnenkoaaIT
namespace Go.Proofs.Ythlbogmnnenkoaa
open Go.RowKit

def labS (R n : Nat) (b : List Int) : List Int := (b.drop R).take (n + 1)
def behS (R n : Nat) (b : List Int) : List Int := (b.drop (R + n + 1)).take (b.length - (R + n + 1))
def decOk (R n : Nat) (b xs : List Int) : Bool := decide (sumS (labS R n b) = 1) && !decide (0 < sumS (behS R n b)) && !decide (0 < sumS xs)
/-- The config of a state, and a code. -/
def decS (R : Int) (os : List Ord) (mode : Int) (al : List Bool) (bs : List (List Int)) (xs : List Int) : (Int × List Int) × Int :=
  if modeCodeS R os mode (staOk (kindsN R.toNat os mode : Nat) al bs xs) = 0 then
    (if decOk R.toNat os.length (nthR bs 0) xs = true then ((idxF (fun n => n == 1) (labS R.toNat os.length (nthR bs 0)), (nthR bs 0).take R.toNat), 0) else ((0, []), 4))
  else ((0, []), modeCodeS R os mode (staOk (kindsN R.toNat os mode : Nat) al bs xs))
/-- A part of a list of numbers. -/
theorem slice_mid {P : Program} {T E : Nat} (hT : P.underlying T = some (.slice E)) (hE : (P.info? E).map (·.size) = some 1) (g o n c lo hi : Nat) (h1 : lo ≤ hi) (h2 : hi ≤ c) (w' : World) :
    (Instr.slice T (.slice (some ⟨g, o, none⟩) n c) (some (.int .i64 lo)) (some (.int .i64 hi)) none).run P w' = .ok (.slice (some ⟨g, if c = lo then o else o + lo, none⟩) (hi - lo) (c - lo)) w' := by
  have hE' : ∃ info, P.info? E = some info ∧ info.size = 1 := by
    cases hh : P.info? E with
    | none => simp [hh] at hE
    | some info => exact ⟨info, rfl, by simpa [hh] using hE⟩
  obtain ⟨info, hi2, hs⟩ := hE'
  by_cases hc : c = lo
  · simp [h1, Instr.slice, Instr.sliceBounds, Instr.sliceBound, run_underlying hT, asIntOf, sizeOf, typeInfo, hi2, hs, hc]
    try omega
  · simp [h1, h2, Instr.slice, Instr.sliceBounds, Instr.sliceBound, run_underlying hT, asIntOf, sizeOf, typeInfo, hi2, hs, hc, Addr.add_lit]
    try omega
theorem slice_end {P : Program} {T E : Nat} (hT : P.underlying T = some (.slice E)) (hE : (P.info? E).map (·.size) = some 1) (g o n c lo : Nat) (h1 : lo ≤ n) (_h2 : n ≤ c) (w' : World) :
    (Instr.slice T (.slice (some ⟨g, o, none⟩) n c) (some (.int .i64 lo)) none none).run P w' = .ok (.slice (some ⟨g, if c = lo then o else o + lo, none⟩) (n - lo) (c - lo)) w' := by
  have hE' : ∃ info, P.info? E = some info ∧ info.size = 1 := by
    cases hh : P.info? E with
    | none => simp [hh] at hE
    | some info => exact ⟨info, rfl, by simpa [hh] using hE⟩
  obtain ⟨info, hi2, hs⟩ := hE'
  by_cases hc : c = lo
  · simp [h1, Instr.slice, Instr.sliceBounds, Instr.sliceBound, run_underlying hT, asIntOf, sizeOf, typeInfo, hi2, hc]
    try omega
  · simp [h1, Instr.slice, Instr.sliceBounds, Instr.sliceBound, run_underlying hT, asIntOf, sizeOf, typeInfo, hi2, hs, hc, Addr.add_lit]
    try omega
theorem nth_cut {xs : List Int} {lo m i : Nat} (hi : i < m) : nth ((xs.drop lo).take m) i = nth xs (lo + i) := by
  simp [nth, hi]
theorem SlI.cut {S : Nat → Prop} {w : World} {g o : Nat} {xs : List Int} (h : SlI S w (some ⟨g, o, none⟩) xs) (lo m c : Nat) (h1 : lo + m ≤ xs.length) (h2 : xs.length ≤ c) : SlI S w (some ⟨g, if c = lo then o else o + lo, none⟩) ((xs.drop lo).take m) := by
  have hl : ((xs.drop lo).take m).length = m := by simp; omega
  refine ⟨by rw [hl]; have := h.len; omega, fun h0 => ?_, fun i hi => ?_⟩
  · rw [hl] at h0
    exact ⟨(h.ptr (by omega)).1, _, _, rfl⟩
  · rw [hl] at hi
    have hc : ¬ c = lo := by omega
    rw [nth_cut hi, if_neg hc]
    have := h.cell (lo + i) (by omega)
    simpa [adr, blk, ofs, Nat.add_assoc] using this
theorem cut_len {xs : List Int} {lo m : Nat} (h : lo + m ≤ xs.length) : ((xs.drop lo).take m).length = m := by simp; omega
theorem SlI.take0 {S : Nat → Prop} {w : World} {a : Option Addr} {xs : List Int} (h : SlI S w a xs) (K : Nat) (hk : K ≤ xs.length) : SlI S w a (xs.take K) := by
  have hl : (xs.take K).length = K := by simp; omega
  refine ⟨by rw [hl]; have := h.len; omega, fun h0 => ?_, fun i hi => ?_⟩
  · rw [hl] at h0
    exact h.ptr (by omega)
  · rw [hl] at hi
    have e : nth (xs.take K) i = nth xs i := by simp [nth, hi]
    rw [e]
    exact h.cell i (by omega)
def cellN (w : World) (p : Addr) : Nat := match w.cell? p with | some v => (intOf v).toNat | none => 0
theorem oneSum {xs : List Int} (h : small xs) (hl : xs.length ≤ 17) : ∀ k, k ≤ xs.length → 0 ≤ sumTo xs k ∧ sumTo xs k ≤ 1000 * k ∧ ∀ j, j < k → nth xs j ≤ sumTo xs k
  | 0, _ => by simp [sumTo]
  | k + 1, hk => by
    obtain ⟨h1, h2, h3⟩ := oneSum h hl k (by omega)
    have h4 := h k (by omega)
    have e : sumTo xs (k + 1) = sumTo xs k + nth xs k := by rw [sumTo]; unfold wrap64; omega
    rw [e]
    refine ⟨by omega, by push_cast; omega, fun j hj => ?_⟩
    by_cases hjk : j = k
    · subst hjk; omega
    · have := h3 j (by omega); omega
theorem firstOne {xs : List Int} (h : small xs) (hl : xs.length ≤ 17) (hs : sumS xs = 1) : ∃ m, m < xs.length ∧ nth xs m = 1 ∧ ∀ j, j < m → nth xs j = 0 := by
  have key : ∀ k, k ≤ xs.length → (sumTo xs k = 0 ∧ ∀ j, j < k → nth xs j = 0) ∨ ∃ m, m < k ∧ nth xs m = 1 ∧ ∀ j, j < m → nth xs j = 0 := by
    intro k
    induction k with
    | zero => intro _; exact .inl ⟨rfl, by omega⟩
    | succ k ih =>
      intro hk
      rcases ih (by omega) with ⟨e0, h0⟩ | ⟨m, h1, h2⟩
      · by_cases hz : nth xs k = 0
        · refine .inl ⟨by rw [sumTo, e0, hz]; unfold wrap64; omega, fun j hj => ?_⟩
          by_cases hjk : j = k
          · subst hjk; exact hz
          · exact h0 j (by omega)
        · have h5 := (oneSum h hl xs.length (Nat.le_refl _)).2.2 k (by omega)
          have h6 := h k (by omega)
          unfold sumS at hs
          rw [hs] at h5
          exact .inr ⟨k, by omega, by omega, h0⟩
      · exact .inr ⟨m, by omega, h2⟩
  rcases key xs.length (Nat.le_refl _) with ⟨e0, _⟩ | ⟨m, h1, h2⟩
  · unfold sumS at hs; omega
  · exact ⟨m, h1, h2⟩
theorem Ow.inner0 {w : World} {b0 : List Int} {a : Option Addr} {n c : Nat} {F : List Nat} (h : Ow w (dII [b0]) (.slice a n c) F) : ∃ a0 c0, w.cell? (adr a 0) = some (.slice a0 b0.length c0) ∧ SlI Any w a0 b0 ∧ b0.length ≤ c0 := by
  obtain ⟨a', m, c', e, hl, hm, hh⟩ := h
  cases e
  rcases hh with ⟨h1, _⟩ | ⟨g, o, F', rfl, _, _, v, F1, F2, hc, _, hv, _⟩
  · simp at h1
  · obtain ⟨a0, c0, rfl, h2, h3⟩ := Ow.capI (xs := b0) hv
    exact ⟨a0, c0, by simpa [adr, blk, ofs] using hc, h3, h2⟩
set_option maxHeartbeats 400000 in
theorem indexI_c (S : Nat → Prop) (a : Option Addr) (c : Nat) (xs : List Int) (v : Int) (w : World) (hx : SlI S w a xs) :
    Calls Try.prog 125 #[.slice a xs.length c, .int .i64 v] w (RetP w (.int .i64 (idxF (fun n => n == v) xs))) := by
  have l1 := hx.len
  unfold maxLen at l1
  have i1 := hx.ix tabI.under tabI.size c
  go_enter Try.func125, Try.ntmps125
  go_wp2
  go_loopw [5, 8] (fun _ i wr => ∃ k : Nat, k ≤ xs.length ∧ i = .int .i64 k ∧ w = wr ∧ Hid (∀ j, j < k → (nth xs j == v) = false)) (fun _ i _ => xs.length - (intOf i).toNat)
  case atStart => exact ⟨0, Nat.zero_le _, rfl, rfl, Lib.hid (by omega)⟩
  case round =>
    obtain ⟨k, hk, rfl, rfl, HJ⟩ := hrel
    by_cases hlt : k < xs.length
    · have g1 := hx.cell k hlt
      by_cases he : v = nth xs k
      · have HE : Hid (idxF (fun n => n == v) xs = k) := Lib.hid (idxF_at hlt HJ.out (by simp [he]))
        have hb : (v == nth xs k) = true := by simpa using he
        clear he
        go_wp2
        go_ret
        exact ⟨ret_int HE.out.symm, rfl⟩
      · have hb : (v == nth xs k) = false := by simpa using he
        have HN : Hid ((nth xs k == v) = false) := Lib.hid (by rw [beq_eq_false_iff_ne]; exact fun e => he e.symm)
        clear he
        go_wp2
        go_roundw
        case rel => exact ⟨k + 1, by omega, by go_num, trivial, Lib.hid (upto (P := fun j => (nth xs j == v) = false) HJ.out HN.out)⟩
        case measure => simp [intOf]; omega
    · have HE : Hid (idxF (fun n => n == v) xs = -1) := Lib.hid (idxF_none (by have e : k = xs.length := by omega
                                                                               exact e ▸ HJ.out))
      go_wp2
      go_ret
      exact ⟨ret_int HE.out.symm, rfl⟩
theorem decode1_c (R : Nat) (ao : Option Addr) (co : Nat) (os : List Ord) (mode : Int) (aa ab ar : Option Addr) (ca cb cr : Nat) (al : List Bool) (bs : List (List Int)) (xs : List Int) (w : World) (ho : SlO Any w ao os) (hc : os.length ≤ co) (hpg : PgOk R os) (ha : SlB Any w aa al) (hb : SlII Any w ab bs) (hx : SlI Any w ar xs) (p m q : Nat) (hp0 : w.cell? ⟨p, 0, none⟩ = some (.int .i64 R)) (hp1 : w.cell? ⟨p, 1, none⟩ = some (.slice ao os.length co)) (hm0 : w.cell? ⟨m, 0, none⟩ = some (.int .i64 mode)) (hq0 : w.cell? ⟨q, 0, none⟩ = some (.slice aa al.length ca)) (hq1 : w.cell? ⟨q, 1, none⟩ = some (.slice ab bs.length cb)) (hq2 : w.cell? ⟨q, 2, none⟩ = some (.slice ar xs.length cr)) :
    Calls Try.prog 120 #[.pointer (some ⟨p, 0, none⟩), .pointer (some ⟨m, 0, none⟩), .pointer (some ⟨q, 0, none⟩)] w (RetV w (.bool (staOk (kindsN R os mode : Nat) al bs xs))) := by
  have HC := Lib.hid (isState_c R ao co os mode aa ab ar ca cb cr al bs xs w ho hc hpg ha hb hx)
  go_enter Try.func120, Try.ntmps120
  go_wp2_with fail
  refine HC.out.mono ?_
  rintro e w1 ⟨rfl, hb⟩
  go_wp2
  go_ret
  exact ⟨rfl, hb⟩
theorem RetAK.cfg2 {w w1 : World} {b : Nat} {pc : Int} {regs : List Int} {v : Value} {F : List Nat} (h : Below w.heap.size w w1) (hb : w.heap.size ≤ b) (ho : Ow w1 (dI regs) v F) (hn : F.Nodup) (hF : ∀ y, y ∈ F → w.heap.size ≤ y) (hbF : b ∉ F) (code : Int) :
    RetAK w [.i pc, dI regs] code (.returned (.tuple #[.agg #[.int .i64 pc, v], .int .i64 code])) ((w1.setCell ⟨b, 0, none⟩ (.int .i64 pc)).setCell ⟨b, 1, none⟩ v) :=
  ⟨[.int .i64 pc, v], F, rfl, (h.setCell hb _).setCell hb _, ⟨[], F, ⟨rfl, rfl⟩, ⟨F, [], (ho.setCell hbF _).setCell hbF _, rfl, by simp⟩, by simp⟩, hn, hF⟩
theorem setT (w : World) (b : Nat) (v0 v1 : Value) {u0 u1 : Value} (h0 : w.cell? ⟨b, 0, none⟩ = some u0) (h1 : w.cell? ⟨b, 1, none⟩ = some u1) :
    ((w.setCell ⟨b, 0, none⟩ v0).setCell ⟨b, 1, none⟩ v1).cell? ⟨b, 0, none⟩ = some v0 ∧ ((w.setCell ⟨b, 0, none⟩ v0).setCell ⟨b, 1, none⟩ v1).cell? ⟨b, 1, none⟩ = some v1 ∧ (w.setCell ⟨b, 0, none⟩ v0).cell? ⟨b, 0, none⟩ = some v0 := by
  have e0 : (w.setCell ⟨b, 0, none⟩ v0).cell? ⟨b, 0, none⟩ = some v0 := World.cell?_setCell_same _ _ _ h0
  have e1 : (w.setCell ⟨b, 0, none⟩ v0).cell? ⟨b, 1, none⟩ = some u1 := by rw [World.cell?_setCell_other _ _ _ _ (by simp)]; exact h1
  exact ⟨by rw [World.cell?_setCell_other _ _ _ _ (by simp)]; exact e0, World.cell?_setCell_same _ _ _ e1, e0⟩
set_option maxHeartbeats 4000000 in
set_option maxRecDepth 100000 in
theorem implDecodeState_d (R : Int) (os : List Ord) (mode : Int) (al : List Bool) (bs : List (List Int)) (xs : List Int) {vo va vb vx : Value} {F F1 F2 F3 : List Nat} (w : World) (h1 : Ow w (dO os) vo F) (h2 : Ow w (dB al) va F1) (h3 : Ow w (dII bs) vb F2) (h4 : Ow w (dI xs) vx F3) :
    Calls Try.prog 31 #[.agg #[.int .i64 R, vo], .int .i64 mode, .agg #[va, vb, vx]] w (RetAK w [.i (decS R os mode al bs xs).1.1, dI (decS R os mode al bs xs).1.2] (decS R os mode al bs xs).2) := by
  obtain ⟨ao, co, rfl, hc, ho⟩ := h1.capO
  obtain ⟨aa, ca, rfl⟩ := h2.valB
  have h3c := h3
  obtain ⟨ab, cb, rfl⟩ := h3.valII
  obtain ⟨ar, cr, rfl⟩ := h4.val
  have ha := h2.argB
  have hb := h3.argII
  have hx := h4.arg
  have hb0 : Below w.heap.size w ((((w.alloc (.cells #[.int .i64 R, .slice ao os.length co] 30)).alloc (.cells #[.int .i64 mode] 2)).alloc (.cells #[.slice aa al.length ca, .slice ab bs.length cb, .slice ar xs.length cr] 64)).alloc (.cells #[.int .i64 0, .slice none 0 0] 61)) := ((((Below.refl _ _).alloc (Nat.le_refl _) _).alloc (by simp) _).alloc (by simp; omega) _).alloc (by simp; omega) _
  have HM := Lib.hid (modeCode_c R ao co os mode 120 #[.pointer (some ⟨w.heap.size, 0, none⟩), .pointer (some ⟨w.heap.size + 1, 0, none⟩), .pointer (some ⟨w.heap.size + 2, 0, none⟩)] (staOk (kindsN R.toNat os mode : Nat) al bs xs) ((((w.alloc (.cells #[.int .i64 R, .slice ao os.length co] 30)).alloc (.cells #[.int .i64 mode] 2)).alloc (.cells #[.slice aa al.length ca, .slice ab bs.length cb, .slice ar xs.length cr] 64)).alloc (.cells #[.int .i64 0, .slice none 0 0] 61)) (ho.below hb0) hc (callFunc_run Try.func120 (by kernel_rfl) rfl)
    (Lib.hid fun wx hb9 hv _ => by
      obtain ⟨K, rfl, hpg⟩ := PgOk.of hv
      rw [Int.toNat_natCast]
      exact decode1_c K ao co os mode aa ab ar ca cb cr al bs xs wx ((ho.below hb0).below hb9) hc hpg ((ha.below hb0).below hb9) ((hb.below hb0).below hb9) ((hx.below hb0).below hb9) w.heap.size (w.heap.size + 1) (w.heap.size + 2) (by rw [bcell1 hb9 (by simp <;> omega)]; simp [go_sem]) (by rw [bcell1 hb9 (by simp <;> omega)]; simp [go_sem]) (by rw [bcell1 hb9 (by simp <;> omega)]; simp [go_sem]) (by rw [bcell1 hb9 (by simp <;> omega)]; simp [go_sem]) (by rw [bcell1 hb9 (by simp <;> omega)]; simp [go_sem]) (by rw [bcell1 hb9 (by simp <;> omega)]; simp [go_sem])))
  have HB0 := Lib.hid hb0
  have lx := hx.len
  by_cases hcode : modeCodeS R os mode (staOk (kindsN R.toNat os mode : Nat) al bs xs) = 0
  rotate_left
  · have hres : decS R os mode al bs xs = ((0, []), modeCodeS R os mode (staOk (kindsN R.toNat os mode : Nat) al bs xs)) := by unfold decS; rw [if_neg hcode]
    rw [hres]
    obtain ⟨code, hcd⟩ : ∃ c, c = modeCodeS R os mode (staOk (kindsN R.toNat os mode : Nat) al bs xs) := ⟨_, rfl⟩
    rw [← hcd] at HM hcode ⊢
    have hq : (code == 0) = false := by simpa using hcode
    clear hcode hres hcd h1 h2 h3 h3c h4 ho ha hb hx hb0
    go_enter Try.func31, Try.ntmps31
    go_wp2_with fail
    refine HM.out.mono ?_
    rintro e w1 ⟨rfl, hb1⟩
    have rr0 : w1.cell? ⟨w.heap.size + 3, 0, none⟩ = some (.int .i64 0) := by rw [bcell1 hb1 (by simp <;> omega)]; simp [go_sem]
    have rz0 : w1.frozen? ⟨w.heap.size + 3, 0, none⟩ = false := by rw [hb1.frozen (p := ⟨w.heap.size + 3, 0, none⟩) (by simp <;> omega)]; simp [go_sem]
    have rr1 : w1.cell? ⟨w.heap.size + 3, 1, none⟩ = some (.slice none 0 0) := by rw [bcell1 hb1 (by simp <;> omega)]; simp [go_sem]
    have rz1 : w1.frozen? ⟨w.heap.size + 3, 1, none⟩ = false := by rw [hb1.frozen (p := ⟨w.heap.size + 3, 1, none⟩) (by simp <;> omega)]; simp [go_sem]
    have hz1 : w.heap.size + 4 ≤ w1.heap.size := by have := hb1.size; simp at this; omega
    have HB1 := Lib.hid (HB0.out.trans (hb1.mono (by simp; omega)))
    clear hb1
    have sA := setT w1 (w.heap.size + 3) (.int .i64 0) (.slice none 0 0) rr0 rr1
    go_wp2
    refine bodyPost_ret (v := .tuple #[.agg #[.int .i64 0, .slice none 0 0], .int .i64 code]) (by simp [results, Try.results31, go_sem, sA]) rfl ?_
    exact RetAK.cfg2 HB1.out (by omega) (Ow_empty _ _ _ _) (by simp) (by simp) (by simp) code
  · obtain ⟨K, rfl, hpg, hm1, hm2, hcf, _, _⟩ := modeCode_zero hcode
    have hres : decS K os mode al bs xs = if decOk K os.length (nthR bs 0) xs = true then ((idxF (fun n => n == 1) (labS K os.length (nthR bs 0)), (nthR bs 0).take K), 0) else ((0, []), 4) := by unfold decS; rw [if_pos hcode]; rfl
    rw [hres]
    rw [hcode] at HM
    obtain ⟨q1, q2, q3, q4, sm0, smx⟩ := staOk_ok hcf
    obtain ⟨b0, rfl⟩ : ∃ x, bs = [x] := by match bs, q2 with | [x], _ => exact ⟨x, rfl⟩
    have e0 : nthR [b0] 0 = b0 := rfl
    rw [Int.toNat_natCast] at q3 q4
    rw [e0] at q3 sm0
    have ib := hb.ix tabII.under tabII.size cb
    simp only [List.length_singleton] at ib
    have i9 := fun w' => ib 0 w' (by omega) (by omega)
    obtain ⟨hk1, hk2⟩ := kindsN_le hpg mode
    have hr1 := hpg.r1
    have hr3 := hpg.r3
    have hn6 := hpg.n6
    have hbl : K + os.length + 1 ≤ b0.length := by omega
    have hb17 : b0.length ≤ 17 := by omega
    obtain ⟨E, hE⟩ : ∃ E : Nat, E = K + os.length := ⟨_, rfl⟩

    obtain ⟨a0, c0, gb, sb, hc0⟩ := h3c.inner0
    obtain ⟨_, g0, o0, rfl⟩ := sb.ptr (by omega)
    obtain ⟨A1, hA1⟩ : ∃ A, A = (some ⟨g0, if c0 = K then o0 else o0 + K, none⟩ : Option Addr) := ⟨_, rfl⟩
    obtain ⟨A2, hA2⟩ : ∃ A, A = (some ⟨g0, if c0 = E + 1 then o0 else o0 + (E + 1), none⟩ : Option Addr) := ⟨_, rfl⟩
    obtain ⟨lab, hlab⟩ : ∃ l, l = labS K os.length b0 := ⟨_, rfl⟩
    obtain ⟨beh, hbeh⟩ : ∃ l, l = behS K os.length b0 := ⟨_, rfl⟩
    obtain ⟨rgs, hrgs⟩ : ∃ l, l = b0.take K := ⟨_, rfl⟩
    have lb1 : lab.length = os.length + 1 := by rw [hlab]; exact cut_len (by omega)
    have lb2 : beh.length = b0.length - (E + 1) := by rw [hbeh]; unfold behS; rw [cut_len (by omega), hE]
    have lb3 : rgs.length = K := by rw [hrgs]; simp; omega
    have hsl1 : ∀ w', (Instr.slice 34 (.slice (some ⟨g0, o0, none⟩) b0.length c0) (some (.int .i64 (K : Int))) (some (.int .i64 ((E : Int) + 1))) none).run Try.prog w' = .ok (.slice A1 lab.length (c0 - K)) w' := fun w' => by
      rw [show ((E : Int) + 1) = ((E + 1 : Nat) : Int) by omega, lb1, hA1, show os.length + 1 = E + 1 - K by omega]
      exact slice_mid (P := Try.prog) tabI.under tabI.size g0 o0 b0.length c0 K (E + 1) (by omega) (by omega) w'
    have hsl2 : ∀ w', (Instr.slice 34 (.slice (some ⟨g0, o0, none⟩) b0.length c0) (some (.int .i64 ((E : Int) + 1))) none none).run Try.prog w' = .ok (.slice A2 beh.length (c0 - (E + 1))) w' := fun w' => by
      rw [show ((E : Int) + 1) = ((E + 1 : Nat) : Int) by omega, lb2, hA2]
      exact slice_end (P := Try.prog) tabI.under tabI.size g0 o0 b0.length c0 (E + 1) (by omega) (by omega) w'
    have hsl3 := slice_to (P := Try.prog) tabI.under tabI.size g0 o0 b0.length c0 K (by omega)
    have SL : Hid (SlI Any w A1 lab) := Lib.hid (by rw [hA1, hlab]; exact sb.cut K (os.length + 1) c0 (by omega) hc0)
    have SH : Hid (SlI Any w A2 beh) := Lib.hid (by rw [hA2, hbeh, show behS K os.length b0 = (b0.drop (E + 1)).take (b0.length - (E + 1)) by rw [hE]; rfl]; exact sb.cut (E + 1) (b0.length - (E + 1)) c0 (by omega) hc0)
    have SR : Hid (SlI Any w (some ⟨g0, o0, none⟩) rgs) := Lib.hid (by rw [hrgs]; exact sb.take0 K (by omega))
    have SX := Lib.hid hx
    have hdec : decOk K os.length b0 xs = (decide (sumS lab = 1) && !decide (0 < sumS beh) && !decide (0 < sumS xs)) := by rw [hlab, hbeh]; rfl
    obtain ⟨s1, hs1⟩ : ∃ s, s = sumS lab := ⟨_, rfl⟩
    obtain ⟨s2, hs2⟩ : ∃ s, s = sumS beh := ⟨_, rfl⟩
    obtain ⟨s3, hs3⟩ : ∃ s, s = sumS xs := ⟨_, rfl⟩
    rw [e0, hdec, ← hlab, ← hrgs, ← hs1, ← hs2, ← hs3]
    obtain ⟨RES, hRES⟩ : ∃ r, r = (if (decide (s1 = 1) && !decide (0 < s2) && !decide (0 < s3)) = true then ((idxF (fun n => n == 1) lab, rgs), (0 : Int)) else ((0, []), 4)) := ⟨_, rfl⟩
    rw [← hRES]
    have HRES := Lib.hid hRES
    have L3 := Lib.hid lb3
    have HS1 := Lib.hid hs1
    have HS2 := Lib.hid hs2
    have HS3 := Lib.hid hs3
    have hgb := World.block_lt_of_cell? w _ gb
    have hE9 : E ≤ 9 := by omega
    have HE : Hid ((K : Int) + os.length = E) := Lib.hid (by omega)
    have hr17 : rgs.length < 4294967296 := by omega

    have HZ := Lib.hid (fun wx => callsP (size_ord_c ao os.length co wx ho.len))
    have HLB := Lib.hid (fun wx => label_c (K : Int) (.slice ao os.length co) os.length wx (by omega) (by omega))
    rw [HE.out] at HLB
    simp only [List.length_singleton] at HM HB0 ⊢
    clear lb1 lb2 lb3 hA1 hA2 hlab hbeh hrgs hs1 hs2 hs3 hRES hres hdec e0 h1 h2 h3 h3c h4 ho ha hb hx hb0 q1 q2 q3 q4 sm0 smx hcf hcode hpg ib hc hc0 sb hm1 hm2 hE hk1 hk2 lx
    go_enter Try.func31, Try.ntmps31
    go_wp2_with fail
    refine HM.out.mono ?_
    rintro e w1 ⟨rfl, hb1⟩
    have bx0 : w1.cell? ⟨w.heap.size, 0, none⟩ = some (.int .i64 K) := by rw [bcell1 hb1 (by simp <;> omega)]; simp [go_sem]
    have bx1 : w1.cell? ⟨w.heap.size, 1, none⟩ = some (.slice ao os.length co) := by rw [bcell1 hb1 (by simp <;> omega)]; simp [go_sem]
    have tx1 : w1.cell? ⟨w.heap.size + 2, 1, none⟩ = some (.slice ab 1 cb) := by rw [bcell1 hb1 (by simp <;> omega)]; simp [go_sem]
    have tx2 : w1.cell? ⟨w.heap.size + 2, 2, none⟩ = some (.slice ar xs.length cr) := by rw [bcell1 hb1 (by simp <;> omega)]; simp [go_sem]
    have rr0 : w1.cell? ⟨w.heap.size + 3, 0, none⟩ = some (.int .i64 0) := by rw [bcell1 hb1 (by simp <;> omega)]; simp [go_sem]
    have rz0 : w1.frozen? ⟨w.heap.size + 3, 0, none⟩ = false := by rw [hb1.frozen (p := ⟨w.heap.size + 3, 0, none⟩) (by simp <;> omega)]; simp [go_sem]
    have rr1 : w1.cell? ⟨w.heap.size + 3, 1, none⟩ = some (.slice none 0 0) := by rw [bcell1 hb1 (by simp <;> omega)]; simp [go_sem]
    have rz1 : w1.frozen? ⟨w.heap.size + 3, 1, none⟩ = false := by rw [hb1.frozen (p := ⟨w.heap.size + 3, 1, none⟩) (by simp <;> omega)]; simp [go_sem]
    have hz1 : w.heap.size + 4 ≤ w1.heap.size := by have := hb1.size; simp at this; omega
    have HB1 := Lib.hid (HB0.out.trans (hb1.mono (by simp; omega)))
    have gx : w1.cell? (adr ab 0) = some (.slice (some ⟨g0, o0, none⟩) b0.length c0) := (HB1.out.cell (p := adr ab 0) hgb).trans gb
    clear hb1 gb
    go_wp2
    refine wp_quiet_wd (by kernel_rfl) (by kernel_rfl) ?_
    have y0 := wat_cell bx0
    have y1 := wat_cell bx1
    have y2 := wat_cell tx1
    have y3 := wat_cell gx
    have HZ' : Hid (∀ x : Wd w1, Calls Try.prog 123 #[.slice ao os.length co] (wat x) (RetV (wat x) (.int .i64 os.length))) := Lib.hid (fun x => HZ.out _)
    have HL' : Hid (∀ x : Wd w1, Calls Try.prog 122 #[.agg #[.int .i64 K, .slice ao os.length co], .int .i64 os.length] (wat x) (RetV (wat x) (.int .i64 E))) := Lib.hid (fun x => HLB.out _)
    repeat (go_big_quiet_step (first | with_reducible exact wdV (HZ'.out _) | with_reducible exact wdV (HL'.out _)))
    refine wpQuiet_nil ?_
    rintro _ ⟨wq, rfl⟩
    have hb2 := wat_below wq
    obtain ⟨w2, hw2⟩ : ∃ wz, wz = wat wq := ⟨_, rfl⟩
    rw [← hw2] at hb2 ⊢
    replace bx0 : w2.cell? ⟨w.heap.size, 0, none⟩ = some (.int .i64 K) := (bcell1 hb2 (by omega)).trans bx0
    replace bx1 : w2.cell? ⟨w.heap.size, 1, none⟩ = some (.slice ao os.length co) := (bcell1 hb2 (by omega)).trans bx1
    replace tx1 : w2.cell? ⟨w.heap.size + 2, 1, none⟩ = some (.slice ab 1 cb) := (bcell1 hb2 (by omega)).trans tx1
    replace tx2 : w2.cell? ⟨w.heap.size + 2, 2, none⟩ = some (.slice ar xs.length cr) := (bcell1 hb2 (by omega)).trans tx2
    replace rr0 : w2.cell? ⟨w.heap.size + 3, 0, none⟩ = some (.int .i64 0) := (bcell1 hb2 (by omega)).trans rr0
    replace rr1 : w2.cell? ⟨w.heap.size + 3, 1, none⟩ = some (.slice none 0 0) := (bcell1 hb2 (by omega)).trans rr1
    replace rz0 : w2.frozen? ⟨w.heap.size + 3, 0, none⟩ = false := (hb2.frozen (p := ⟨w.heap.size + 3, 0, none⟩) (by show w.heap.size + 3 < _; omega)).trans rz0
    replace rz1 : w2.frozen? ⟨w.heap.size + 3, 1, none⟩ = false := (hb2.frozen (p := ⟨w.heap.size + 3, 1, none⟩) (by show w.heap.size + 3 < _; omega)).trans rz1
    have hz2 : w.heap.size + 4 ≤ w2.heap.size := by have := hb2.size; omega
    have HB2 := Lib.hid (bnext HB1.out hb2 (Nat.le_refl _))
    clear y0 y1 y2 y3 HZ' HL' HZ HLB hb2 hw2 gx HB1 HB0 HM i9
    have C := bagSize_c Any A1 (c0 - K) lab w2 (SL.out.below HB2.out)
    rw [← HS1.out] at C
    replace C := Lib.hid C
    go_wp2_with fail
    refine C.out.mono ?_
    rintro e w9 ⟨rfl, rfl⟩
    clear C
    by_cases k1 : s1 = 1
    rotate_left
    · have HR : Hid (RES = ((0, []), 4)) := Lib.hid (by rw [HRES.out]; simp [k1])
      have k1' : (s1 != 1) = true := by simpa using k1
      clear k1
      have sA := setT w2 (w.heap.size + 3) (.int .i64 0) (.slice none 0 0) rr0 rr1
      go_wp2
      refine bodyPost_ret (v := .tuple #[.agg #[.int .i64 0, .slice none 0 0], .int .i64 4]) (by simp [results, Try.results31, go_sem, sA]) rfl ?_
      rw [HR.out]
      exact RetAK.cfg2 HB2.out (by omega) (Ow_empty _ _ _ _) (by simp) (by simp) (by simp) 4
    have C := bagSize_c Any A2 (c0 - (E + 1)) beh w2 (SH.out.below HB2.out)
    rw [← HS2.out] at C
    replace C := Lib.hid C
    have k1' : (s1 != 1) = false := by simpa using k1
    go_wp2_with fail
    refine C.out.mono ?_
    rintro e w9 ⟨rfl, rfl⟩
    clear C
    by_cases k2 : 0 < s2
    · have HR : Hid (RES = ((0, []), 4)) := Lib.hid (by rw [HRES.out]; simp [k2])
      have sA := setT w2 (w.heap.size + 3) (.int .i64 0) (.slice none 0 0) rr0 rr1
      go_wp2
      refine bodyPost_ret (v := .tuple #[.agg #[.int .i64 0, .slice none 0 0], .int .i64 4]) (by simp [results, Try.results31, go_sem, sA]) rfl ?_
      rw [HR.out]
      exact RetAK.cfg2 HB2.out (by omega) (Ow_empty _ _ _ _) (by simp) (by simp) (by simp) 4
    have C := bagSize_c Any ar cr xs w2 (SX.out.below HB2.out)
    rw [← HS3.out] at C
    replace C := Lib.hid C
    go_wp2_with fail
    refine C.out.mono ?_
    rintro e w9 ⟨rfl, rfl⟩
    clear C
    by_cases k3 : 0 < s3
    · have HR : Hid (RES = ((0, []), 4)) := Lib.hid (by rw [HRES.out]; simp [k3])
      have sA := setT w2 (w.heap.size + 3) (.int .i64 0) (.slice none 0 0) rr0 rr1
      go_wp2
      refine bodyPost_ret (v := .tuple #[.agg #[.int .i64 0, .slice none 0 0], .int .i64 4]) (by simp [results, Try.results31, go_sem, sA]) rfl ?_
      rw [HR.out]
      exact RetAK.cfg2 HB2.out (by omega) (Ow_empty _ _ _ _) (by simp) (by simp) (by simp) 4
    have HR : Hid (RES = ((idxF (fun n => n == 1) lab, rgs), 0)) := Lib.hid (by rw [HRES.out]; simp [k1, k2, k3])
    go_wp2
    have hs0 : w2.drew.cell? ⟨w.heap.size, 0, none⟩ = some (.int .i64 K) := bx0
    have HRI := Lib.hid (callFunc_run Try.func125 (by kernel_rfl) rfl)
    have HRC := Lib.hid (callFunc_run Try.func126 (by kernel_rfl) rfl)
    have HIX := Lib.hid (indexI_c Any A1 (c0 - K) lab 1 w2.drew (SL.out.below (below_dr HB2.out)))
    have C := clone_c Any ⟨g0, o0, none⟩ c0 rgs w2.drew (SR.out.below (below_dr HB2.out)) hr17
    rw [L3.out] at C
    have HCN := Lib.hid C
    clear C
    refine wp_region_C (n := 10) (l := #[false, false, false, false, false, false, false, false, false, false]) (fun wx => wx.cell? ⟨w.heap.size, 0, none⟩ = some (.int .i64 K)) [] (by kernel_rfl) rfl rfl ?_
    refine wpC_take (i := 0) (v := ?v0_1) (l' := #[true, false, false, false, false, false, false, false, false, false]) [1, 6, 7, 8, 9] rfl (by kernel_rfl) (by kernel_rfl) (by kernel_rfl) (by kernel_rfl) (by kernel_rfl) rfl (fun _ _ _ h => h) (by rfl) (fun wx hS => ?q0_1) (by assumption) ?_
    case q0_1 => (go_simp; try with_reducible rfl)
    try simp only [List.getElem_toArray, List.getElem_cons_zero, Act.put, List.setIfInBounds_toArray, List.set_cons_zero, List.set_cons_succ]
    refine wpC_take (i := 2) (v := ?v2_2) (l' := #[true, false, true, false, false, false, false, false, false, false]) [5, 6, 7, 8, 9] rfl (by kernel_rfl) (by kernel_rfl) (by kernel_rfl) (by kernel_rfl) (by kernel_rfl) rfl (fun _ _ _ h => h) (by rfl) (fun wx hS => ?q2_2) (by assumption) ?_
    case q2_2 => (go_simp; try with_reducible rfl)
    try simp only [List.getElem_toArray, List.getElem_cons_succ, List.getElem_cons_zero, Act.put, List.setIfInBounds_toArray, List.set_cons_zero, List.set_cons_succ]
    refine wpC_take (i := 3) (v := ?v3_3) (l' := #[true, false, true, true, false, false, false, false, false, false]) [4, 5, 6, 7, 8, 9] rfl (by kernel_rfl) (by kernel_rfl) (by kernel_rfl) (by kernel_rfl) (by kernel_rfl) rfl (fun _ _ _ h => h) (by rfl) (fun wx hS => ?q3_3) (by assumption) ?_
    case q3_3 => (go_simp; try with_reducible rfl)
    try simp only [List.getElem_toArray, List.getElem_cons_succ, List.getElem_cons_zero, Act.put, List.setIfInBounds_toArray, List.set_cons_zero, List.set_cons_succ]
    refine wpC_take (i := 4) (v := ?v4_4) (l' := #[true, false, true, true, true, false, false, false, false, false]) [5, 6, 7, 8, 9] rfl (by kernel_rfl) (by kernel_rfl) (by kernel_rfl) (by kernel_rfl) (by kernel_rfl) rfl (fun _ _ _ h => h) (by rfl) (fun wx hS => ?q4_4) (by assumption) ?_
    case q4_4 => ((try dsimp only at hS); go_simp; try with_reducible rfl)
    try simp only [List.getElem_toArray, List.getElem_cons_succ, List.getElem_cons_zero, Act.put, List.setIfInBounds_toArray, List.set_cons_zero, List.set_cons_succ]
    refine wpC_take (i := 5) (v := ?v5_5) (l' := #[true, false, true, true, true, true, false, false, false, false]) [6, 7, 8, 9] rfl (by kernel_rfl) (by kernel_rfl) (by kernel_rfl) (by kernel_rfl) (by kernel_rfl) rfl (fun _ _ _ h => h) (by rfl) (fun wx hS => ?q5_5) (by assumption) ?_
    case q5_5 => (go_simp; try with_reducible rfl)
    try simp only [List.getElem_toArray, List.getElem_cons_succ, List.getElem_cons_zero, Act.put, List.setIfInBounds_toArray, List.set_cons_zero, List.set_cons_succ]
    refine wpC_one (i := 1) (l' := #[true, true, true, true, true, true, false, false, false, false]) (by kernel_rfl) rfl rfl (by rfl) (fun Kr hKr => ?_)
    refine step_callV rfl 125 _ _ rfl HRI.out #[.slice A1 lab.length (c0 - K), .int .i64 1] (by first | rfl | (simp [Act.eval]; done) | (simp [Act.eval]; rfl) | (simp [Act.eval]; repeat' constructor)) HIX.out ?_
    rintro e wT ⟨rfl, rfl⟩
    refine ⟨_, rfl, ?_⟩
    refine hKr _ _ (fun _ => hs0) ?_
    clear hKr Kr
    try simp only [List.getElem_toArray, List.getElem_cons_succ, List.getElem_cons_zero, Act.put, List.setIfInBounds_toArray, List.set_cons_zero, List.set_cons_succ]
    clear HIX
    refine wpC_one (i := 6) (l' := #[true, true, true, true, true, true, true, false, false, false]) (by kernel_rfl) rfl rfl (by rfl) (fun Kr hKr => ?_)
    refine step_callV rfl 126 _ _ rfl HRC.out #[.slice (some ⟨g0, o0, none⟩) K c0] (by first | rfl | (simp [Act.eval]; done) | (simp [Act.eval]; rfl) | (simp [Act.eval]; repeat' constructor)) HCN.out ?_
    rintro e w5 ⟨v5, F5, rfl, hb5, ho5, hn5, hF5⟩
    obtain ⟨a5, c5, rfl⟩ := ho5.val
    refine ⟨_, rfl, ?_⟩
    have hs5 : w5.cell? ⟨w.heap.size, 0, none⟩ = some (.int .i64 K) := (bcell1 hb5 (by simp; omega)).trans bx0
    refine hKr _ _ (fun _ => hs5) ?_
    clear hKr Kr
    try simp only [List.getElem_toArray, List.getElem_cons_succ, List.getElem_cons_zero, Act.put, List.setIfInBounds_toArray, List.set_cons_zero, List.set_cons_succ]
    have hzd : w2.drew.heap.size = w2.heap.size := rfl
    replace bx0 : w5.cell? ⟨w.heap.size, 0, none⟩ = some (.int .i64 K) := (bcell1 hb5 (by omega)).trans bx0
    replace rr0 : w5.cell? ⟨w.heap.size + 3, 0, none⟩ = some (.int .i64 0) := (bcell1 hb5 (by omega)).trans rr0
    replace rr1 : w5.cell? ⟨w.heap.size + 3, 1, none⟩ = some (.slice none 0 0) := (bcell1 hb5 (by omega)).trans rr1
    replace rz0 : w5.frozen? ⟨w.heap.size + 3, 0, none⟩ = false := (hb5.frozen (p := ⟨w.heap.size + 3, 0, none⟩) (by show w.heap.size + 3 < _; omega)).trans rz0
    replace rz1 : w5.frozen? ⟨w.heap.size + 3, 1, none⟩ = false := (hb5.frozen (p := ⟨w.heap.size + 3, 1, none⟩) (by show w.heap.size + 3 < _; omega)).trans rz1
    have HB5 := Lib.hid (bnext HB2.out (Below.trans (below_dr (Below.refl _ _)) hb5) (Nat.le_refl _))
    have HF5 := Lib.hid hF5
    have HO5 := Lib.hid ho5
    have HN5 := Lib.hid hn5
    clear hzd hb5 ho5 hF5 hn5 hsl1 hsl2 hsl3
    have sA := setT w5 (w.heap.size + 3) (.int .i64 (idxF (fun n => n == 1) lab)) (.slice a5 rgs.length c5) rr0 rr1
    have hs6 : ((w5.setCell ⟨w.heap.size + 3, 0, none⟩ (.int .i64 (idxF (fun n => n == 1) lab))).setCell ⟨w.heap.size + 3, 1, none⟩ (.slice a5 rgs.length c5)).cell? ⟨w.heap.size, 0, none⟩ = some (.int .i64 K) := by rw [World.cell?_setCell_other _ _ _ _ (by simp), World.cell?_setCell_other _ _ _ _ (by simp)]; exact hs5
    refine wpC_take (i := 7) (v := ?v7_6) (l' := #[true, true, true, true, true, true, true, true, false, false]) [8, 9] rfl (by kernel_rfl) (by kernel_rfl) (by kernel_rfl) (by kernel_rfl) (by kernel_rfl) rfl (fun _ _ _ h => h) (by rfl) (fun wx hS => ?q7_6) (by assumption) ?_
    case q7_6 => (go_simp; try with_reducible rfl)
    try simp only [List.getElem_toArray, List.getElem_cons_succ, List.getElem_cons_zero, Act.put, List.setIfInBounds_toArray, List.set_cons_zero, List.set_cons_succ]
    refine wpC_one (i := 8) (l' := #[true, true, true, true, true, true, true, true, true, false]) (by kernel_rfl) rfl rfl (by rfl) (fun Kr hKr => ?_)
    go_simp
    refine hKr _ _ (fun _ => hs6) ?_
    clear hKr Kr
    try simp only [List.getElem_toArray, List.getElem_cons_succ, List.getElem_cons_zero, Act.put, List.setIfInBounds_toArray, List.set_cons_zero, List.set_cons_succ]
    refine wpC_take (i := 9) (v := ?v9_7) (l' := #[true, true, true, true, true, true, true, true, true, true]) [] rfl (by kernel_rfl) (by kernel_rfl) (by kernel_rfl) (by kernel_rfl) (by kernel_rfl) rfl (fun _ _ _ h => h) (by rfl) (fun wx hS => ?q9_7) (by assumption) ?_
    case q9_7 => (go_simp; try with_reducible rfl)
    try simp only [List.getElem_toArray, List.getElem_cons_succ, List.getElem_cons_zero, Act.put, List.setIfInBounds_toArray, List.set_cons_zero, List.set_cons_succ]
    refine wpC_done (by kernel_rfl) ?_ _
    go_wp2
    refine bodyPost_ret (v := .tuple #[.agg #[.int .i64 (idxF (fun n => n == 1) lab), .slice a5 rgs.length c5], .int .i64 0]) (by simp [results, Try.results31, go_sem, sA]) rfl ?_
    rw [HR.out]
    exact RetAK.cfg2 HB5.out (by omega) HO5.out HN5.out (fun y hy => by have := HF5.out y hy; simp at this; omega) (fun e => by have := HF5.out _ e; simp at this; omega) 0
set_option maxHeartbeats 4000000 in
set_option maxRecDepth 100000 in
theorem specDecodeState_d (R : Int) (os : List Ord) (mode : Int) (al : List Bool) (bs : List (List Int)) (xs : List Int) {vo va vb vx : Value} {F F1 F2 F3 : List Nat} (w : World) (h1 : Ow w (dO os) vo F) (h2 : Ow w (dB al) va F1) (h3 : Ow w (dII bs) vb F2) (h4 : Ow w (dI xs) vx F3) :
    Calls Try.prog 29 #[.agg #[.int .i64 R, vo], .int .i64 mode, .agg #[va, vb, vx]] w (RetAK w [.i (decS R os mode al bs xs).1.1, dI (decS R os mode al bs xs).1.2] (decS R os mode al bs xs).2) := by
  obtain ⟨ao, co, rfl, hc, ho⟩ := h1.capO
  obtain ⟨aa, ca, rfl⟩ := h2.valB
  have h3c := h3
  obtain ⟨ab, cb, rfl⟩ := h3.valII
  obtain ⟨ar, cr, rfl⟩ := h4.val
  have ha := h2.argB
  have hb := h3.argII
  have hx := h4.arg
  have hb0 : Below w.heap.size w (((w.alloc (.cells #[.int .i64 R, .slice ao os.length co] 30)).alloc (.cells #[.slice aa al.length ca, .slice ab bs.length cb, .slice ar xs.length cr] 64)).alloc (.cells #[.int .i64 0, .slice none 0 0] 61)) := ((((Below.refl _ _).alloc (Nat.le_refl _) _).alloc (by simp) _).alloc (by simp; omega) _)
  have HRT := Lib.hid (l05Right_c R w.heap.size (w.heap.size + 1) ao co os mode aa ab ar ca cb cr al bs xs (((w.alloc (.cells #[.int .i64 R, .slice ao os.length co] 30)).alloc (.cells #[.slice aa al.length ca, .slice ab bs.length cb, .slice ar xs.length cr] 64)).alloc (.cells #[.int .i64 0, .slice none 0 0] 61)) (ho.below hb0) (ha.below hb0) (hb.below hb0) (hx.below hb0) (by simp [go_sem]) (by simp [go_sem]) (by simp [go_sem]) (by simp [go_sem]) (by simp [go_sem]))
  have HD := Lib.hid (fun (wx : World) (hb : Below (((w.alloc (.cells #[.int .i64 R, .slice ao os.length co] 30)).alloc (.cells #[.slice aa al.length ca, .slice ab bs.length cb, .slice ar xs.length cr] 64)).alloc (.cells #[.int .i64 0, .slice none 0 0] 61)).heap.size (((w.alloc (.cells #[.int .i64 R, .slice ao os.length co] 30)).alloc (.cells #[.slice aa al.length ca, .slice ab bs.length cb, .slice ar xs.length cr] 64)).alloc (.cells #[.int .i64 0, .slice none 0 0] 61)) wx) => l05Code_c R w.heap.size ao co os mode (rightS R os mode al bs xs) wx ((ho.below hb0).below (hb.mono (by simp))) (by rw [bcell1 hb (by simp <;> omega)]; simp [go_sem]) (by rw [bcell1 hb (by simp <;> omega)]; simp [go_sem]))
  have HB0 := Lib.hid hb0
  have lx := hx.len
  by_cases hcode : modeCodeS R os mode (staOk (kindsN R.toNat os mode : Nat) al bs xs) = 0
  rotate_left
  · have hres : decS R os mode al bs xs = ((0, []), modeCodeS R os mode (staOk (kindsN R.toNat os mode : Nat) al bs xs)) := by unfold decS; rw [if_neg hcode]
    have hsys : codeSysS R os mode (rightS R os mode al bs xs) = (zSys, modeCodeS R os mode (staOk (kindsN R.toNat os mode : Nat) al bs xs)) := by
      unfold codeSysS; rw [modeCode_right, if_neg hcode]
    rw [hres]
    obtain ⟨code, hcd⟩ : ∃ c, c = modeCodeS R os mode (staOk (kindsN R.toNat os mode : Nat) al bs xs) := ⟨_, rfl⟩
    rw [← hcd] at hcode hsys ⊢
    have hq : (code == 0) = false := by simpa using hcode
    have HSY := Lib.hid hsys
    clear hcode hres hcd hsys h1 h2 h3 h3c h4 ho ha hb hx hb0
    go_enter Try.func29, Try.ntmps29
    go_wp2_with fail
    refine HRT.out.mono ?_
    rintro e w1 ⟨rfl, hb1⟩
    have HD1 := HD.out w1 hb1
    rw [HSY.out] at HD1
    have HB1 := Lib.hid hb1
    clear hb1
    go_wp2_with fail
    refine HD1.mono ?_
    rintro e w3 ⟨vs, G2, rfl, hb3, ho3, hn3, hF3⟩
    obtain ⟨a1, n1, c1, a2, c2, rfl⟩ := ho3.three
    have hbb := bnext HB1.out hb3 (Nat.le_refl _)
    have HB3 : Hid (Below w.heap.size w w3) := Lib.hid (HB0.out.trans (hbb.mono (by simp; omega)))
    have hz3 : w.heap.size + 3 ≤ w3.heap.size := by have := hbb.size; simp at this; omega
    have ur0 : w3.cell? ⟨w.heap.size + 2, 0, none⟩ = some (.int .i64 0) := by rw [bcell1 hbb (by simp <;> omega)]; simp [go_sem]
    have uz0 : w3.frozen? ⟨w.heap.size + 2, 0, none⟩ = false := by rw [hbb.frozen (p := ⟨w.heap.size + 2, 0, none⟩) (by simp <;> omega)]; simp [go_sem]
    have ur1 : w3.cell? ⟨w.heap.size + 2, 1, none⟩ = some (.slice none 0 0) := by rw [bcell1 hbb (by simp <;> omega)]; simp [go_sem]
    have uz1 : w3.frozen? ⟨w.heap.size + 2, 1, none⟩ = false := by rw [hbb.frozen (p := ⟨w.heap.size + 2, 1, none⟩) (by simp <;> omega)]; simp [go_sem]
    have rr0 : ∀ X, (w3.alloc X).cell? ⟨w.heap.size + 2, 0, none⟩ = some (.int .i64 0) := fun X => (bcell1 (below_alloc w3 X) (by omega)).trans ur0
    have rz0 : ∀ X, (w3.alloc X).frozen? ⟨w.heap.size + 2, 0, none⟩ = false := fun X => ((below_alloc w3 X).frozen (p := ⟨w.heap.size + 2, 0, none⟩) (by show w.heap.size + 2 < _; omega)).trans uz0
    have rr1 : ∀ X, (w3.alloc X).cell? ⟨w.heap.size + 2, 1, none⟩ = some (.slice none 0 0) := fun X => (bcell1 (below_alloc w3 X) (by omega)).trans ur1
    have rz1 : ∀ X, (w3.alloc X).frozen? ⟨w.heap.size + 2, 1, none⟩ = false := fun X => ((below_alloc w3 X).frozen (p := ⟨w.heap.size + 2, 1, none⟩) (by show w.heap.size + 2 < _; omega)).trans uz1
    have sA := fun X => setT (w3.alloc X) (w.heap.size + 2) (.int .i64 0) (.slice none 0 0) (rr0 X) (rr1 X)
    clear hbb hb3 hn3 hF3 ho3 HD1
    go_wp2
    refine bodyPost_ret (v := .tuple #[.agg #[.int .i64 0, .slice none 0 0], .int .i64 code]) (by simp [results, Try.results29, go_sem, sA]) rfl ?_
    exact RetAK.cfg2 (HB3.out.alloc (by omega) _) (by omega) (Ow_empty _ _ _ _) (by simp) (by simp) (by simp) code
  · obtain ⟨K, rfl, hpg, hm1, hm2, hcf, _, _⟩ := modeCode_zero hcode
    have hres : decS K os mode al bs xs = if decOk K os.length (nthR bs 0) xs = true then ((idxF (fun n => n == 1) (labS K os.length (nthR bs 0)), (nthR bs 0).take K), 0) else ((0, []), 4) := by unfold decS; rw [if_pos hcode]; rfl
    have hsys : codeSysS K os mode (rightS K os mode al bs xs) = ((((kindsN K os mode : Nat) : Int), [-1], rulesS K os mode), 0) := by
      unfold codeSysS; rw [modeCode_right, if_pos hcode]; rfl
    rw [hres]
    have HSY := Lib.hid hsys
    obtain ⟨q1, q2, q3, q4, sm0, smx⟩ := staOk_ok hcf
    obtain ⟨b0, rfl⟩ : ∃ x, bs = [x] := by match bs, q2 with | [x], _ => exact ⟨x, rfl⟩
    have e0 : nthR [b0] 0 = b0 := rfl
    rw [Int.toNat_natCast] at q3 q4
    rw [e0] at q3 sm0
    have ib := hb.ix tabII.under tabII.size cb
    simp only [List.length_singleton] at ib
    have i9 := fun w' => ib 0 w' (by omega) (by omega)
    obtain ⟨hk1, hk2⟩ := kindsN_le hpg mode
    have hr1 := hpg.r1
    have hr3 := hpg.r3
    have hn6 := hpg.n6
    have hbl : K + os.length + 1 ≤ b0.length := by omega
    have hb17 : b0.length ≤ 17 := by omega
    obtain ⟨E, hE⟩ : ∃ E : Nat, E = K + os.length := ⟨_, rfl⟩

    have hsml : small (labS K os.length b0) := fun j hj => by
      have hj2 : j < os.length + 1 := by rw [labS, cut_len (by omega)] at hj; exact hj
      rw [labS, nth_cut hj2]
      exact sm0 (K + j) (by omega)
    have hfst : sumS (labS K os.length b0) = 1 → ∃ m, m < os.length + 1 ∧ nth b0 (K + m) = 1 ∧ idxF (fun n => n == 1) (labS K os.length b0) = m ∧ ∀ j, j < m → nth b0 (K + j) = 0 := fun h => by
      have hl : (labS K os.length b0).length = os.length + 1 := cut_len (by omega)
      obtain ⟨m, g1, g2, g3⟩ := firstOne hsml (by omega) h
      have en : ∀ j, j < os.length + 1 → nth (labS K os.length b0) j = nth b0 (K + j) := fun j hj => nth_cut hj
      refine ⟨m, by omega, by rw [← en m (by omega)]; exact g2, idxF_at g1 (fun j hj => by rw [g3 j hj]; rfl) (by rw [g2]; rfl), fun j hj => by rw [← en j (by omega)]; exact g3 j hj⟩
    have HFST := Lib.hid hfst
    obtain ⟨a0, c0, gb, sb, hc0⟩ := h3c.inner0
    obtain ⟨_, g0, o0, ha0⟩ := sb.ptr (by omega)
    have sb1 := sb
    rw [ha0] at sb1
    have i0 := sb.ix tabI.under tabI.size c0
    have SB := Lib.hid sb
    have HA0 : Hid (∃ ad, a0 = some ad) := Lib.hid ⟨_, ha0⟩
    obtain ⟨A1, hA1⟩ : ∃ A, A = (some ⟨g0, if c0 = K then o0 else o0 + K, none⟩ : Option Addr) := ⟨_, rfl⟩
    obtain ⟨A2, hA2⟩ : ∃ A, A = (some ⟨g0, if c0 = E + 1 then o0 else o0 + (E + 1), none⟩ : Option Addr) := ⟨_, rfl⟩
    obtain ⟨lab, hlab⟩ : ∃ l, l = labS K os.length b0 := ⟨_, rfl⟩
    obtain ⟨beh, hbeh⟩ : ∃ l, l = behS K os.length b0 := ⟨_, rfl⟩
    obtain ⟨rgs, hrgs⟩ : ∃ l, l = b0.take K := ⟨_, rfl⟩
    have lb1 : lab.length = os.length + 1 := by rw [hlab]; exact cut_len (by omega)
    have lb2 : beh.length = b0.length - (E + 1) := by rw [hbeh]; unfold behS; rw [cut_len (by omega), hE]
    have lb3 : rgs.length = K := by rw [hrgs]; simp; omega
    have hsl1 : ∀ w', (Instr.slice 34 (.slice a0 b0.length c0) (some (.int .i64 (K : Int))) (some (.int .i64 ((E : Int) + 1))) none).run Try.prog w' = .ok (.slice A1 lab.length (c0 - K)) w' := fun w' => by
      rw [ha0, show ((E : Int) + 1) = ((E + 1 : Nat) : Int) by omega, lb1, hA1, show os.length + 1 = E + 1 - K by omega]
      exact slice_mid (P := Try.prog) tabI.under tabI.size g0 o0 b0.length c0 K (E + 1) (by omega) (by omega) w'
    have hsl2 : ∀ w', (Instr.slice 34 (.slice a0 b0.length c0) (some (.int .i64 ((E : Int) + 1))) none none).run Try.prog w' = .ok (.slice A2 beh.length (c0 - (E + 1))) w' := fun w' => by
      rw [ha0, show ((E : Int) + 1) = ((E + 1 : Nat) : Int) by omega, lb2, hA2]
      exact slice_end (P := Try.prog) tabI.under tabI.size g0 o0 b0.length c0 (E + 1) (by omega) (by omega) w'
    have hsl3 : ∀ w', (Instr.slice 34 (.slice a0 b0.length c0) none (some (.int .i64 (K : Int))) none).run Try.prog w' = .ok (.slice a0 K c0) w' := fun w' => by
      rw [ha0]
      exact slice_to (P := Try.prog) tabI.under tabI.size g0 o0 b0.length c0 K (by omega) w'
    have SL : Hid (SlI Any w A1 lab) := Lib.hid (by rw [hA1, hlab]; exact sb1.cut K (os.length + 1) c0 (by omega) hc0)
    have SH : Hid (SlI Any w A2 beh) := Lib.hid (by rw [hA2, hbeh, show behS K os.length b0 = (b0.drop (E + 1)).take (b0.length - (E + 1)) by rw [hE]; rfl]; exact sb1.cut (E + 1) (b0.length - (E + 1)) c0 (by omega) hc0)
    have SR : Hid (SlI Any w a0 rgs) := Lib.hid (by rw [hrgs]; exact sb.take0 K (by omega))
    have SX := Lib.hid hx
    have hdec : decOk K os.length b0 xs = (decide (sumS lab = 1) && !decide (0 < sumS beh) && !decide (0 < sumS xs)) := by rw [hlab, hbeh]; rfl
    obtain ⟨s1, hs1⟩ : ∃ s, s = sumS lab := ⟨_, rfl⟩
    obtain ⟨s2, hs2⟩ : ∃ s, s = sumS beh := ⟨_, rfl⟩
    obtain ⟨s3, hs3⟩ : ∃ s, s = sumS xs := ⟨_, rfl⟩
    rw [e0, hdec, ← hlab, ← hrgs, ← hs1, ← hs2, ← hs3]
    obtain ⟨RES, hRES⟩ : ∃ r, r = (if (decide (s1 = 1) && !decide (0 < s2) && !decide (0 < s3)) = true then ((idxF (fun n => n == 1) lab, rgs), (0 : Int)) else ((0, []), 4)) := ⟨_, rfl⟩
    rw [← hRES]
    have HRES := Lib.hid hRES
    have L3 := Lib.hid lb3
    have HS1 := Lib.hid hs1
    have HS2 := Lib.hid hs2
    have HS3 := Lib.hid hs3
    have hgb := World.block_lt_of_cell? w _ gb
    have hE9 : E ≤ 9 := by omega
    have HE : Hid ((K : Int) + os.length = E) := Lib.hid (by omega)
    have hr17 : rgs.length < 4294967296 := by omega

    rw [← hlab] at HFST
    rw [← hs1] at HFST
    simp only [List.length_singleton] at HRT HD HB0 ⊢
    have I0 : Hid (∀ k : Nat, k < os.length + 1 → ∀ w', _) := Lib.hid (fun k hk w' => i0 ((K : Int) + (k : Int)) w' (by omega) (by omega))
    clear lb1 lb2 lb3 hA1 hA2 hlab hbeh hrgs hs1 hs2 hs3 hRES hres hsys hdec e0 h1 h2 h3 h3c h4 ho ha hb hx hb0 q1 q2 q3 q4 sm0 smx hcf hcode hpg ib hc hc0 sb sb1 ha0 hm1 hm2 hE hk1 hk2 lx hsml hfst i0
    go_enter Try.func29, Try.ntmps29
    go_wp2_with fail
    refine HRT.out.mono ?_
    rintro e w1 ⟨rfl, hb1⟩
    have HD1 := HD.out w1 hb1
    rw [HSY.out] at HD1
    have HB1 := Lib.hid hb1
    clear hb1
    go_wp2_with fail
    refine HD1.mono ?_
    rintro e w3 ⟨vs, G2, rfl, hb3, ho3, hn3, hF3⟩
    obtain ⟨a1, n1, c1, a2, c2, rfl⟩ := ho3.three
    have hbb := bnext HB1.out hb3 (Nat.le_refl _)
    have HB3 : Hid (Below w.heap.size w w3) := Lib.hid (HB0.out.trans (hbb.mono (by simp; omega)))
    have hz3 : w.heap.size + 3 ≤ w3.heap.size := by have := hbb.size; simp at this; omega
    have ur0 : w3.cell? ⟨w.heap.size + 2, 0, none⟩ = some (.int .i64 0) := by rw [bcell1 hbb (by simp <;> omega)]; simp [go_sem]
    have uz0 : w3.frozen? ⟨w.heap.size + 2, 0, none⟩ = false := by rw [hbb.frozen (p := ⟨w.heap.size + 2, 0, none⟩) (by simp <;> omega)]; simp [go_sem]
    have ur1 : w3.cell? ⟨w.heap.size + 2, 1, none⟩ = some (.slice none 0 0) := by rw [bcell1 hbb (by simp <;> omega)]; simp [go_sem]
    have uz1 : w3.frozen? ⟨w.heap.size + 2, 1, none⟩ = false := by rw [hbb.frozen (p := ⟨w.heap.size + 2, 1, none⟩) (by simp <;> omega)]; simp [go_sem]
    have rr0 : ∀ X, (w3.alloc X).cell? ⟨w.heap.size + 2, 0, none⟩ = some (.int .i64 0) := fun X => (bcell1 (below_alloc w3 X) (by omega)).trans ur0
    have rz0 : ∀ X, (w3.alloc X).frozen? ⟨w.heap.size + 2, 0, none⟩ = false := fun X => ((below_alloc w3 X).frozen (p := ⟨w.heap.size + 2, 0, none⟩) (by show w.heap.size + 2 < _; omega)).trans uz0
    have rr1 : ∀ X, (w3.alloc X).cell? ⟨w.heap.size + 2, 1, none⟩ = some (.slice none 0 0) := fun X => (bcell1 (below_alloc w3 X) (by omega)).trans ur1
    have rz1 : ∀ X, (w3.alloc X).frozen? ⟨w.heap.size + 2, 1, none⟩ = false := fun X => ((below_alloc w3 X).frozen (p := ⟨w.heap.size + 2, 1, none⟩) (by show w.heap.size + 2 < _; omega)).trans uz1
    have sA := fun X => setT (w3.alloc X) (w.heap.size + 2) (.int .i64 0) (.slice none 0 0) (rr0 X) (rr1 X)
    have HPX : Hid (∀ wx, Below w3.heap.size w3 wx → wx.cell? ⟨w.heap.size, 0, none⟩ = some (.int .i64 K)) := Lib.hid (fun wx h => (bcell1 h (by omega)).trans (by rw [bcell1 hbb (by simp <;> omega)]; simp [go_sem]))
    have vx1 : w3.cell? ⟨w.heap.size, 1, none⟩ = some (.slice ao os.length co) := by rw [bcell1 hbb (by simp <;> omega)]; simp [go_sem]
    have vt1 : w3.cell? ⟨w.heap.size + 1, 1, none⟩ = some (.slice ab 1 cb) := by rw [bcell1 hbb (by simp <;> omega)]; simp [go_sem]
    have vt2 : w3.cell? ⟨w.heap.size + 1, 2, none⟩ = some (.slice ar xs.length cr) := by rw [bcell1 hbb (by simp <;> omega)]; simp [go_sem]
    have vgb : w3.cell? (adr ab 0) = some (.slice a0 b0.length c0) := (HB3.out.cell (p := adr ab 0) hgb).trans gb
    have bx0 : ∀ X, (w3.alloc X).cell? ⟨w.heap.size, 0, none⟩ = some (.int .i64 K) := fun X => HPX.out _ (below_alloc w3 X)
    have bx1 : ∀ X, (w3.alloc X).cell? ⟨w.heap.size, 1, none⟩ = some (.slice ao os.length co) := fun X => (bcell1 (below_alloc w3 X) (by omega)).trans vx1
    have tx1 : ∀ X, (w3.alloc X).cell? ⟨w.heap.size + 1, 1, none⟩ = some (.slice ab 1 cb) := fun X => (bcell1 (below_alloc w3 X) (by omega)).trans vt1
    have tx2 : ∀ X, (w3.alloc X).cell? ⟨w.heap.size + 1, 2, none⟩ = some (.slice ar xs.length cr) := fun X => (bcell1 (below_alloc w3 X) (by omega)).trans vt2
    have gx : ∀ X, (w3.alloc X).cell? (adr ab 0) = some (.slice a0 b0.length c0) := fun X => ((below_alloc w3 X).cell (World.block_lt_of_cell? w3 _ vgb)).trans vgb
    have HLB : Hid (∀ wx, Below w3.heap.size w3 wx → ∀ k : Nat, k ≤ os.length → Calls Try.prog 117 #[.pointer (some ⟨w.heap.size, 0, none⟩), .int .i64 k] wx (RetP wx (.int .i64 ((K : Int) + k)))) := Lib.hid (fun wx h k hk => l05Label_c K w.heap.size k wx (HPX.out wx h) (by omega) (by omega))
    have HLE : Hid (∀ X, Calls Try.prog 117 #[.pointer (some ⟨w.heap.size, 0, none⟩), .int .i64 os.length] (w3.alloc X) (RetP (w3.alloc X) (.int .i64 E))) := Lib.hid (fun X => by rw [← HE.out]; exact HLB.out _ (below_alloc w3 X) os.length (Nat.le_refl _))
    have HU1 : Hid (∀ X, Calls Try.prog 118 #[.slice A1 lab.length (c0 - K)] (w3.alloc X) (RetP (w3.alloc X) (.int .i64 s1))) := Lib.hid (fun X => by rw [HS1.out]; exact l06Sum_c Any A1 (c0 - K) lab _ (SL.out.below (HB3.out.alloc (by omega) X)))
    have HU2 : Hid (∀ X, Calls Try.prog 118 #[.slice A2 beh.length (c0 - (E + 1))] (w3.alloc X) (RetP (w3.alloc X) (.int .i64 s2))) := Lib.hid (fun X => by rw [HS2.out]; exact l06Sum_c Any A2 (c0 - (E + 1)) beh _ (SH.out.below (HB3.out.alloc (by omega) X)))
    have HU3 : Hid (∀ X, Calls Try.prog 118 #[.slice ar xs.length cr] (w3.alloc X) (RetP (w3.alloc X) (.int .i64 s3))) := Lib.hid (fun X => by rw [HS3.out]; exact l06Sum_c Any ar cr xs _ (SX.out.below (HB3.out.alloc (by omega) X)))
    have HCN : Hid (∀ X, Calls Try.prog 119 #[.slice a0 K c0] (w3.alloc X) (RetD (w3.alloc X) (dI rgs))) := Lib.hid (fun X => by have := l00Own_c Any a0 c0 rgs (w3.alloc X) (SR.out.below (HB3.out.alloc (by omega) X)) HA0.out hr17; rw [L3.out] at this; exact this)
    clear hbb hb3 hn3 hF3 ho3 HD1 vx1 vt1 vt2 vgb gb
    go_wp2_with fail
    refine (HLE.out _).mono ?_
    rintro e w9 ⟨rfl, rfl⟩
    go_wp2_with fail
    refine (HU1.out _).mono ?_
    rintro e w9 ⟨rfl, rfl⟩
    by_cases k1 : s1 = 1
    rotate_left
    · have HR : Hid (RES = ((0, []), 4)) := Lib.hid (by rw [HRES.out]; simp [k1])
      have k1' : (s1 != 1) = true := by simpa using k1
      clear k1
      go_wp2
      refine bodyPost_ret (v := .tuple #[.agg #[.int .i64 0, .slice none 0 0], .int .i64 4]) (by simp [results, Try.results29, go_sem, sA]) rfl ?_
      rw [HR.out]
      exact RetAK.cfg2 (HB3.out.alloc (by omega) _) (by omega) (Ow_empty _ _ _ _) (by simp) (by simp) (by simp) 4
    obtain ⟨m, hm, hm1, hmi, hm0⟩ := HFST.out k1
    have k1' : (s1 != 1) = false := by simpa using k1
    have HM0 := Lib.hid hm0
    have HM1 := Lib.hid hm1
    have HMI := Lib.hid hmi
    clear hm0 hm1 hmi HFST
    go_wp2_with fail
    refine (HU2.out _).mono ?_
    rintro e w9 ⟨rfl, rfl⟩
    by_cases k2 : 0 < s2
    · have HR : Hid (RES = ((0, []), 4)) := Lib.hid (by rw [HRES.out]; simp [k2])
      go_wp2
      refine bodyPost_ret (v := .tuple #[.agg #[.int .i64 0, .slice none 0 0], .int .i64 4]) (by simp [results, Try.results29, go_sem, sA]) rfl ?_
      rw [HR.out]
      exact RetAK.cfg2 (HB3.out.alloc (by omega) _) (by omega) (Ow_empty _ _ _ _) (by simp) (by simp) (by simp) 4
    go_wp2_with fail
    refine (HU3.out _).mono ?_
    rintro e w9 ⟨rfl, rfl⟩
    by_cases k3 : 0 < s3
    · have HR : Hid (RES = ((0, []), 4)) := Lib.hid (by rw [HRES.out]; simp [k3])
      go_wp2
      refine bodyPost_ret (v := .tuple #[.agg #[.int .i64 0, .slice none 0 0], .int .i64 4]) (by simp [results, Try.results29, go_sem, sA]) rfl ?_
      rw [HR.out]
      exact RetAK.cfg2 (HB3.out.alloc (by omega) _) (by omega) (Ow_empty _ _ _ _) (by simp) (by simp) (by simp) 4
    have HR : Hid (RES = (((m : Int), rgs), 0)) := Lib.hid (by rw [HRES.out]; simp [k1, k2, k3, HMI.out])
    go_wp2_with fail
    refine (HCN.out _).mono ?_
    rintro e w5 ⟨v5, F5, rfl, hb5, ho5, hn5, hF5⟩
    obtain ⟨a5, c5, rfl⟩ := ho5.val
    have hb35 : Below w3.heap.size w3 w5 := (below_alloc w3 _).trans (hb5.mono (by simp))
    have hz5 := hb35.size
    have HB5 := Lib.hid hb35
    have HO5 := Lib.hid ho5
    have HN5 := Lib.hid hn5
    have HF5 : Hid (∀ y, y ∈ F5 → w.heap.size + 3 ≤ y) := Lib.hid (fun y hy => by have := hF5 y hy; simp at this; omega)
    clear hb5 ho5 hn5 hF5 hb35 rr0 rr1 rz0 rz1 sA bx0 bx1 tx1 tx2 gx hsl1 hsl2 hsl3 HU1 HU2 HU3 HCN HLE i9
    go_wp2
    go_loopw [] (fun wr => ∃ k : Nat, k ≤ m ∧ wr.cell? ⟨w5.heap.size, 0, none⟩ = some (.int .i64 k) ∧ wr.cell? ⟨w5.heap.size, 1, none⟩ = some (.slice a5 rgs.length c5) ∧ wr.frozen? ⟨w5.heap.size, 0, none⟩ = false ∧ Hid (Below w5.heap.size w5 wr)) (fun wr => m - cellN wr ⟨w5.heap.size, 0, none⟩)
    case atStart => exact ⟨0, Nat.zero_le _, by simp [go_sem], by simp [go_sem], by simp [go_sem], Lib.hid (below_alloc _ _)⟩
    case round =>
      obtain ⟨k, hk, cc0, cc1, cz0, HBL⟩ := hrel
      have HBW : Hid (Below w3.heap.size w3 wr) := Lib.hid (bnext HB5.out HBL.out (Nat.le_refl _))
      have bx0 := HPX.out wr HBW.out
      have i9 := I0.out k (by omega)
      have gk := (SB.out.below (HB3.out.trans (HBW.out.mono (by omega)))).cell (((K : Int) + (k : Int)).toNat) (by omega)
      rw [show ((K : Int) + (k : Int)).toNat = K + k by omega] at gk i9
      have C := Lib.hid (HLB.out wr HBW.out k (by omega))
      by_cases hkm : k < m
      · rw [HM0.out k hkm] at gk
        go_wp2_with fail
        refine C.out.mono ?_
        rintro e w9 ⟨rfl, rfl⟩
        clear C
        go_wp2
        go_roundw
        case rel => exact ⟨k + 1, by omega, by rw [World.cell?_setCell_same _ _ _ cc0]; go_num, by rw [World.cell?_setCell_other _ _ _ _ (by simp)]; exact cc1, by simp [go_sem, cz0], Lib.hid (HBL.out.setCell (by exact Nat.le_refl _) _)⟩
        case measure =>
          have e1 : cellN wr ⟨w5.heap.size, 0, none⟩ = k := by simp [cellN, cc0, intOf]
          simp only [cellN, World.cell?_setCell_same _ _ _ cc0]
          simp only [cellN] at e1
          rw [e1]
          simp [intOf]; omega
      · obtain rfl : k = m := by omega
        rw [HM1.out] at gk
        have hzr := HBL.out.size
        have hz9 := HBW.out.size
        have rr0 : wr.cell? ⟨w.heap.size + 2, 0, none⟩ = some (.int .i64 0) := (bcell1 HBW.out (by omega)).trans ur0
        have rr1 : wr.cell? ⟨w.heap.size + 2, 1, none⟩ = some (.slice none 0 0) := (bcell1 HBW.out (by omega)).trans ur1
        have rz0 : wr.frozen? ⟨w.heap.size + 2, 0, none⟩ = false := (HBW.out.frozen (p := ⟨w.heap.size + 2, 0, none⟩) (by show w.heap.size + 2 < _; omega)).trans uz0
        have rz1 : wr.frozen? ⟨w.heap.size + 2, 1, none⟩ = false := (HBW.out.frozen (p := ⟨w.heap.size + 2, 1, none⟩) (by show w.heap.size + 2 < _; omega)).trans uz1
        have sA := setT wr (w.heap.size + 2) (.int .i64 k) (.slice a5 rgs.length c5) rr0 rr1
        go_wp2_with fail
        refine C.out.mono ?_
        rintro e w9 ⟨rfl, rfl⟩
        clear C
        go_wp2
        refine bodyPost_ret (v := .tuple #[.agg #[.int .i64 k, .slice a5 rgs.length c5], .int .i64 0]) (by simp [results, Try.results29, go_sem, sA]) rfl ?_
        rw [HR.out]
        exact RetAK.cfg2 (HB3.out.trans (HBW.out.mono (by omega))) (by omega) (HO5.out.below HBL.out) HN5.out (fun y hy => by have := HF5.out y hy; omega) (fun e => by have := HF5.out _ e; omega) 0
theorem decS_cnt (R : Int) (os : List Ord) (mode : Int) (al : List Bool) (bs : List (List Int)) (xs : List Int) : cnt (dI (decS R os mode al bs xs).1.2) ≤ 16777216 := by
  rw [cnt_dI]
  unfold decS
  split
  · rename_i h
    obtain ⟨K, rfl, hp, _⟩ := modeCode_zero h
    have := hp.r3
    split
    · simp; omega
    · simp
  · simp
end Go.Proofs.Ythlbogmnnenkoaa
