/- The bag with a text: the reference's functions. Written by mknh.py. -/
import Derived.Test.YtbnikblhnibgiaaDoorNG
import Derived.Test.YtbnikblhnibgiaaDoorY
import Derived.Test.YtbnikblhnibgiaaDoorM
namespace Go.Proofs.YtbnikblhnibgiaaDoor
open Go.RowKit
def nthBA (ws : List ByteArray) (j : Nat) : ByteArray := ws.getD j ⟨#[]⟩
theorem words_at {ws : List ByteArray} {L : List Bs} (h : ws.map (·.data.toList) = L) {k : Nat} (hk : k < ws.length) : L.drop k = (nthBA ws k).data.toList :: L.drop (k + 1) := by
  subst h
  rw [List.drop_eq_getElem_cons (by simpa using hk)]
  simp [nthBA, hk]
theorem words_mem {ws : List ByteArray} {L : List Bs} (h : ws.map (·.data.toList) = L) {k : Nat} (hk : k < ws.length) : (nthBA ws k).data.toList ∈ L := by
  subst h
  rw [List.mem_map]
  exact ⟨_, List.getElem_mem hk, by simp [nthBA, hk]⟩
theorem Bld.words {E : Nat} {w : World} {B : Nat} {v : Value} {ws : List ByteArray} (h : Bld E w B v (ws.map Value.string)) (h0 : ws ≠ []) :
    ∃ g c, v = .slice (some ⟨g, 0, none⟩) ws.length c ∧ B ≤ g ∧ g < w.heap.size ∧ ws.length ≤ c ∧ ∀ j, j < ws.length → w.cell? ⟨g, j, none⟩ = some (.string (nthBA ws j)) := by
  have hlt := h.lt
  obtain ⟨g, c, rfl, h1, h2, h3⟩ := h.full (by simpa using h0)
  refine ⟨g, c, by simp, (hlt g rfl).1, h1, by simpa using h2, fun j hj => ?_⟩
  exact h3 j (.string (nthBA ws j)) (by simp [nthBA, hj])
theorem cutL_size (c : UInt8) : ∀ (s : Bs) (w : Bs), w ∈ cutL c s → w.length ≤ s.length
  | [], w, h => by simp [cutL] at h; subst h; simp
  | x :: l, w, h => by
    have ih := cutL_size c l
    unfold cutL at h
    split at h
    · rcases List.mem_cons.1 h with rfl | h
      · simp
      · have := ih w h; simp; omega
    · split at h
      · rename_i h2; exact absurd h2 (cutL_ne c l)
      · rename_i a r h2
        rw [h2] at ih
        rcases List.mem_cons.1 h with rfl | h
        · have := ih a (by simp); simpa using this
        · have := ih w (by simp [h]); simp; omega
theorem word_size {ws : List ByteArray} {c : UInt8} {s : ByteArray} (h : ws.map (·.data.toList) = cutL c s.data.toList) {k : Nat} (hk : k < ws.length) : (nthBA ws k).size ≤ s.size := by
  have := cutL_size c _ _ (words_mem h hk)
  rwa [← sizeL, ← sizeL] at this
theorem split1 {y : ByteArray} (h : 1 ≤ y.size) : y.data.toList = y.data.toList.getD 0 0 :: (y.extract 1 y.size).data.toList := by
  rw [Lib.extract_to_end]
  have := dropL (bAt_get (s := y) (k := 0) h)
  simpa using this
theorem tail_nil {y : ByteArray} (h : 1 ≤ y.size) : (y.extract 1 y.size).data.toList = [] ↔ y.size = 1 := by
  rw [Lib.extract_to_end, List.drop_eq_nil_iff, ← sizeL]; omega
theorem ss_empty {kinds nx : Nat} {b : List Int} {y : ByteArray} (h : y.size < 1) : sstep kinds b nx y.data.toList = none := by
  have : y.data.toList = [] := List.length_eq_zero_iff.1 (by rw [← sizeL]; omega)
  rw [this]; rfl
theorem ss_bad {kinds nx : Nat} {b : List Int} {y : ByteArray} (h : 1 ≤ y.size) (hb : bAt y 0 < 97 ∨ 97 + kinds ≤ bAt y 0 ∨ bAt y 0 < 97 + nx) : sstep kinds b nx y.data.toList = none := by
  rw [split1 h, sstep, show (y.data.toList.getD 0 0).toNat = bAt y 0 from rfl, if_pos hb]
theorem ss_one {kinds nx : Nat} {b : List Int} {y : ByteArray} (h : y.size = 1) (hb : ¬ (bAt y 0 < 97 ∨ 97 + kinds ≤ bAt y 0 ∨ bAt y 0 < 97 + nx)) : sstep kinds b nx y.data.toList = some (b.set (bAt y 0 - 97) 1, bAt y 0 - 97 + 1) := by
  rw [split1 (by omega), sstep, show (y.data.toList.getD 0 0).toNat = bAt y 0 from rfl, if_neg hb, if_pos ((tail_nil (by omega)).2 h)]
theorem ss_num {kinds nx : Nat} {b : List Int} {y : ByteArray} (h : 1 < y.size) (hb : ¬ (bAt y 0 < 97 ∨ 97 + kinds ≤ bAt y 0 ∨ bAt y 0 < 97 + nx)) {x : Nat} {ok : Bool} (hx : numP (y.extract 1 y.size).data.toList = (x, ok)) :
    sstep kinds b nx y.data.toList = if ok = true ∧ 2 ≤ x ∧ x ≤ 1000 then some (b.set (bAt y 0 - 97) x, bAt y 0 - 97 + 1) else none := by
  rw [split1 (by omega), sstep, show (y.data.toList.getD 0 0).toNat = bAt y 0 from rfl, if_neg hb, if_neg (fun e => by have := (tail_nil (by omega)).1 e; omega)]
  unfold numP at hx
  cases hn : numS (y.extract 1 y.size).data.toList with
  | none =>
    rw [hn] at hx
    cases hx
    rw [if_neg (by simp)]
  | some n =>
    rw [hn] at hx
    cases hx
    simp only [true_and]
/-- A bag read, or none. -/
def RdB (w : World) (R : Option (List Int)) (e : Ending) (w' : World) : Prop := (R = none ∧ ∃ v, e = .returned (.tuple #[v, .bool false]) ∧ Below w.heap.size w w') ∨
  ∃ b v F, R = some b ∧ e = .returned (.tuple #[v, .bool true]) ∧ Below w.heap.size w w' ∧ Ow w' (dI b) v F ∧ F.Nodup ∧ ∀ g, g ∈ F → w.heap.size ≤ g
theorem RdB.some {w w' : World} {R : Option (List Int)} {b : List Int} {g n c : Nat} {E : Nat} (hR : R = some b) (hl : b.length ≤ 8) (hn : n = b.length) (hb : Below w.heap.size w w') (h : Bld E w' w.heap.size (.slice (some ⟨g, 0, none⟩) n c) (b.map (.int .i64))) :
    RdB w R (.returned (.tuple #[.slice (some ⟨g, 0, none⟩) n c, .bool true])) w' := by
  obtain ⟨a, c', F, e, ho, hn', hF⟩ := h.ow (by unfold maxLen; omega)
  rw [e]
  exact .inr ⟨b, _, F, hR, rfl, hb, ho, hn', hF⟩
theorem Bld.setZ {E : Nat} {w : World} {B g n c : Nat} {xs : List Int} (h : Bld E w B (.slice (some ⟨g, 0, none⟩) n c) (xs.map (.int .i64))) (i : Nat) (x : Int) : Bld E (w.setCell ⟨g, i, none⟩ (.int .i64 x)) B (.slice (some ⟨g, 0, none⟩) n c) ((xs.set i x).map (.int .i64)) := by
  have := h.set i (.int .i64 x)
  rwa [show (xs.map (Value.int .i64)).set i (.int .i64 x) = (xs.set i x).map (.int .i64) by rw [List.map_set]] at this
theorem Bld.atZ {E : Nat} {w : World} {B g n c : Nat} {xs : List Int} (h : Bld E w B (.slice (some ⟨g, 0, none⟩) n c) (xs.map (.int .i64))) {i : Nat} (hi : i < xs.length) : w.cell? ⟨g, i, none⟩ = some (.int .i64 (nth xs i)) :=
  h.cell (by simp [nth, hi])
set_option maxHeartbeats 8000000 in
set_option maxRecDepth 100000 in
theorem l01Read_c (kinds : Nat) (s : ByteArray) (hs : s.size ≤ 2097152) (hk : 1 ≤ kinds ∧ kinds ≤ 8) (w : World) :
    Calls Tryd.prog 23 #[.int .i64 kinds, .string s] w (RdB w (specRead kinds s.data.toList)) := by
  have htl : s.toList = s.data.toList := ByteArray.toList_eq s
  obtain ⟨R, hR⟩ : ∃ R, R = specRead kinds s.data.toList := ⟨_, rfl⟩
  rw [← hR]
  by_cases hm : s.data.toList = [45]
  · have h1 : s.toList = [45] := htl.trans hm
    have HR : Hid (R = some (List.replicate kinds 0)) := Lib.hid (by rw [hR, specRead, if_pos hm])
    clear htl hm hR
    go_enter Tryd.func23, Tryd.ntmps23
    go_wp2_with (at_make; refine make_one rfl _ _ 22 rfl tabI rfl (by decide) kinds _ _ rfl rfl rfl rfl (by omega) w.heap.size (Nat.le_refl _) ?_)
    intro w1 hbl1 hb1 hz1
    have HB1 : Hid (Bld 2 w1 w.heap.size (.slice (some ⟨w.heap.size, 0, none⟩) kinds kinds) ((List.replicate kinds (0 : Int)).map (.int .i64))) := Lib.hid (by rw [List.map_replicate]; exact hbl1)
    have HW1 := Lib.hid hb1
    clear hbl1 hb1
    go_wp2
    go_ret2
    exact RdB.some HR.out (by simp; omega) (by simp) HW1.out HB1.out
  have h1 : (s.toList == [45]) = false := by rw [htl]; simpa using hm
  have HR0 : Hid (R = sfold kinds (cutL 32 s.data.toList) (List.replicate kinds 0) 0) := Lib.hid (by rw [hR, specRead, if_neg hm])
  clear htl hm hR
  go_enter Tryd.func23, Tryd.ntmps23
  go_wp2_with (at_make; refine make_one rfl _ _ 22 rfl tabI rfl (by decide) kinds _ _ rfl rfl rfl rfl (by omega) w.heap.size (Nat.le_refl _) ?_)
  intro w1 hbl1 hb1 hz1
  have HB1 : Hid (Bld 2 w1 w.heap.size (.slice (some ⟨w.heap.size, 0, none⟩) kinds kinds) ((List.replicate kinds (0 : Int)).map (.int .i64))) := Lib.hid (by rw [List.map_replicate]; exact hbl1)
  have HW1 := Lib.hid hb1
  clear hbl1 hb1
  have C := Lib.hid (l01Split_c s 32 hs w1)
  go_wp2_with fail
  refine C.out.mono ?_
  rintro e w2 ⟨v2, rfl, ws, hws, hbl2, hwl, hb2⟩
  have hne : ws ≠ [] := by rintro rfl; exact cutL_ne 32 s.data.toList hws.symm
  obtain ⟨gw, cw, rfl, hgB, hgl, hwc, hcell⟩ := hbl2.words hne
  have HW2 := Lib.hid (bnext HW1.out hb2 (Nat.le_refl _))
  have HB2 := Lib.hid (HB1.out.below hb2)
  have HWS := Lib.hid hws
  have HCL := Lib.hid hcell
  have hgn : gw ≠ w.heap.size := by omega
  have iw := ix_of (P := Tryd.prog) tabStr.under tabStr.size (a := some ⟨gw, 0, none⟩) (n := ws.length) (fun _ => ⟨gw, 0, rfl⟩) cw
  simp only [Nat.mul_one, adr, blk, ofs, Nat.zero_add] at iw
  have i2 := ix_of (P := Tryd.prog) tabI.under tabI.size (a := some ⟨w.heap.size, 0, none⟩) (n := kinds) (fun _ => ⟨w.heap.size, 0, rfl⟩) kinds
  simp only [Nat.mul_one, adr, blk, ofs, Nat.zero_add] at i2
  obtain ⟨n, hn⟩ : ∃ n, n = ws.length := ⟨_, rfl⟩
  have HN := Lib.hid hn
  have hn2 : n ≤ 2097153 := by omega
  rw [← hn] at iw ⊢
  have HZ : Hid (w.heap.size < w2.heap.size) := Lib.hid (by omega)
  clear hws hcell hbl2 hb2 C HW1 HB1 hn hwl hwc hne
  go_wp2
  go_loopw [8, 9] (fun l i wr => ∃ (k nx : Nat) (b : List Int), k ≤ n ∧ nx ≤ kinds ∧ i = .int .i64 k ∧ l = .int .i64 ((nx : Int) - 1) ∧ Hid (b.length = kinds) ∧ Hid (R = sfold kinds ((cutL 32 s.data.toList).drop k) b nx) ∧ Hid (Below w.heap.size w wr) ∧ Hid (Chg [w.heap.size] w2 wr) ∧ Hid (Bld 2 wr w.heap.size (.slice (some ⟨w.heap.size, 0, none⟩) kinds kinds) (b.map (.int .i64)))) (fun _ i _ => n - (intOf i).toNat)
  case atStart => exact ⟨0, 0, List.replicate kinds 0, Nat.zero_le _, Nat.zero_le _, rfl, rfl, Lib.hid (by simp), Lib.hid (by rw [HR0.out]; rfl), HW2, Lib.hid (Chg.refl _ _), HB2⟩
  case round =>
    obtain ⟨k, nx, b, hkn, hnx, rfl, rfl, HL, HRK, HBX, HCX, HBD⟩ := hrel
    by_cases hlt : k < n
    · have hlt2 : (k : Int) < n := by omega
      have jw := fun w' => iw k w' (by omega) hlt2
      simp only [Int.toNat_natCast] at jw
      have g0 := (HCX.out.cell hgl (by simp; exact hgn) k).trans (HCL.out k (by rw [← HN.out]; exact hlt))
      have hdr := words_at HWS.out (k := k) (by rw [← HN.out]; exact hlt)
      have hys := word_size HWS.out (k := k) (by rw [← HN.out]; exact hlt)
      obtain ⟨y, hy⟩ : ∃ y, y = nthBA ws k := ⟨_, rfl⟩
      rw [← hy] at g0 hdr hys
      have hy2 : y.size ≤ 2097152 := by omega
      have HR1 : Hid (R = sfold kinds (y.data.toList :: (cutL 32 s.data.toList).drop (k + 1)) b nx) := Lib.hid (by rw [HRK.out, hdr])
      clear hy hdr hys HRK
      have hl8 : b.length = kinds := HL.out
      by_cases e0 : y.size < 1
      · have e0' : (y.size : Int) < 1 := by omega
        have HR : Hid (R = none) := Lib.hid (by rw [HR1.out, sfold, ss_empty e0])
        clear hl8
        go_wp2
        go_ret2
        exact .inl ⟨HR.out, _, rfl, (HBX.out.alloc HBX.out.size _)⟩
      have e0' : ¬ (y.size : Int) < 1 := by omega
      have j0 := fun w' => idxS (P := Tryd.prog) Tryd.underlying9 y 0 (by omega) w'
      simp only [Int.natCast_zero] at j0
      have hbad := fun h => ss_bad (kinds := kinds) (nx := nx) (b := b) (y := y) (by omega) h
      have hone := fun h1 h2 => ss_one (kinds := kinds) (nx := nx) (b := b) (y := y) h1 h2
      have hnum := fun h1 h2 x ok hx => ss_num (kinds := kinds) (nx := nx) (b := b) (y := y) h1 h2 (x := x) (ok := ok) hx
      obtain ⟨c, hc⟩ : ∃ c, c = bAt y 0 := ⟨_, rfl⟩
      have hc256 : c < 256 := by rw [hc]; exact bAt_lt y 0
      rw [← hc] at j0 hbad hone hnum
      have HBAD := Lib.hid hbad
      have HONE := Lib.hid hone
      have HNUM := Lib.hid hnum
      clear hbad hone hnum hc
      by_cases e1 : c < 97
      · have e1' : (c : Int) < 97 := by omega
        have HR : Hid (R = none) := Lib.hid (by rw [HR1.out, sfold, HBAD.out (.inl e1)])
        clear hl8
        go_wp2
        go_ret2
        exact .inl ⟨HR.out, _, rfl, (HBX.out.alloc HBX.out.size _)⟩
      have e1' : ¬ (c : Int) < 97 := by omega
      have e3 : IntKind.u8.wrap ((c : Int) - 97) = c - 97 := by simp [IntKind.wrap, IntKind.bits, IntKind.signed]; omega
      obtain ⟨q, hq⟩ : ∃ q : Nat, c = q + 97 := ⟨c - 97, by omega⟩
      have e4 : (c : Int) - 97 = q := by omega
      rw [e4] at e3
      by_cases e2 : kinds ≤ q
      · have e2' : (kinds : Int) ≤ (q : Int) := by omega
        have HR : Hid (R = none) := Lib.hid (by rw [HR1.out, sfold, HBAD.out (by omega)])
        clear hl8
        go_wp2
        go_ret2
        exact .inl ⟨HR.out, _, rfl, (HBX.out.alloc HBX.out.size _)⟩
      have e2' : ¬ (kinds : Int) ≤ (q : Int) := by omega
      by_cases e5 : q < nx
      · have e5' : (q : Int) ≤ (nx : Int) - 1 := by omega
        have HR : Hid (R = none) := Lib.hid (by rw [HR1.out, sfold, HBAD.out (by omega)])
        clear hl8
        go_wp2
        go_ret2
        exact .inl ⟨HR.out, _, rfl, (HBX.out.alloc HBX.out.size _)⟩
      have e5' : ¬ (q : Int) ≤ (nx : Int) - 1 := by omega
      have HOK : Hid (¬ (c < 97 ∨ 97 + kinds ≤ c ∨ c < 97 + nx)) := Lib.hid (by omega)
      have hqk : (q : Int) < kinds := by omega
      have jq := fun w' => i2 q w' (by omega) hqk
      simp only [Int.toNat_natCast] at jq
      have HQ : Hid (c - 97 = q) := Lib.hid (by omega)
      by_cases e6 : y.size = 1
      · have e6' : ¬ (1 : Int) < y.size := by omega
        have HR : Hid (R = sfold kinds ((cutL 32 s.data.toList).drop (k + 1)) (b.set q 1) (q + 1)) := Lib.hid (by rw [HR1.out, sfold, HONE.out e6 HOK.out, HQ.out])
        have g1 := HBD.out.atZ (i := q) (by omega)
        have g2 := HBD.out.free q
        have HCS : Hid (Chg [w.heap.size] w2 (wr.setCell ⟨w.heap.size, q, none⟩ (.int .i64 1))) := Lib.hid (HCX.out.trans (Exc.setCell wr ⟨w.heap.size, q, none⟩ (.int .i64 1)).chg)
        have HBS := Lib.hid (HBD.out.setZ q (1))
        have HWS : Hid (Below w.heap.size w (wr.setCell ⟨w.heap.size, q, none⟩ (.int .i64 1))) := Lib.hid (HBX.out.setCell (Nat.le_refl _) _)
        clear hl8 e6 hq hc256
        go_wp2
        go_roundw
        case rel => exact ⟨k + 1, q + 1, b.set q 1, by omega, by omega, by go_num, by go_num, Lib.hid (by rw [List.length_set]; exact HL.out), HR, HWS, HCS, HBS⟩
        case measure => simp [intOf]; omega
      have e6' : (1 : Int) < y.size := by omega
      have jl := fun w' => sliceS_from (P := Tryd.prog) Tryd.underlying9 y 1 (by omega) w'
      simp only [Int.natCast_one] at jl
      have hts : (y.extract 1 y.size).size ≤ 2097152 := by rw [ByteArray.size_extract]; omega
      obtain ⟨t, ht⟩ : ∃ t, t = y.extract 1 y.size := ⟨_, rfl⟩
      rw [← ht] at jl hts
      obtain ⟨x, ok, hxo⟩ : ∃ x ok, numP t.data.toList = (x, ok) := ⟨_, _, rfl⟩
      have HS := Lib.hid (HNUM.out (by omega) HOK.out x ok (by rw [← ht]; exact hxo))
      have C := l01Number_c t hts wr
      rw [hxo] at C
      replace C := Lib.hid C
      clear ht hxo
      go_wp2_with fail
      refine C.out.mono ?_
      rintro e w3 ⟨rfl, hb3⟩
      have HBX3 := Lib.hid (bnext HBX.out hb3 (Nat.le_refl _))
      have HCX3 := Lib.hid (HCX.out.trans (Chg.ofBelow hb3))
      have HBD3 := Lib.hid (HBD.out.below hb3)
      clear hb3 C
      cases ok
      · have HR : Hid (R = none) := Lib.hid (by rw [HR1.out, sfold, HS.out, if_neg (by simp)])
        have HBX := HBX3
        clear hl8
        go_wp2
        go_ret2
        exact .inl ⟨HR.out, _, rfl, (HBX.out.alloc HBX.out.size _)⟩
      · have I := Lib.hid (l00In_c (x : Int) 2 1000)
        by_cases e7 : 2 ≤ x ∧ x ≤ 1000
        · have e7' : inRg (x : Int) 2 1000 = true := by simp [inRg]; omega
          rw [e7'] at I
          have HR : Hid (R = sfold kinds ((cutL 32 s.data.toList).drop (k + 1)) (b.set q x) (q + 1)) := Lib.hid (by rw [HR1.out, sfold, HS.out, if_pos ⟨rfl, e7⟩, HQ.out])
          have g1 := HBD3.out.atZ (i := q) (by omega)
          have g2 := HBD3.out.free q
          have HCS : Hid (Chg [w.heap.size] w2 (w3.setCell ⟨w.heap.size, q, none⟩ (.int .i64 (x : Int)))) := Lib.hid (HCX3.out.trans (Exc.setCell w3 ⟨w.heap.size, q, none⟩ (.int .i64 (x : Int))).chg)
          have HBS := Lib.hid (HBD3.out.setZ q ((x : Int)))
          have HWS : Hid (Below w.heap.size w (w3.setCell ⟨w.heap.size, q, none⟩ (.int .i64 (x : Int)))) := Lib.hid (HBX3.out.setCell (Nat.le_refl _) _)
          clear hl8 e6 hq hc256 e7'
          go_wp2_with fail
          refine (I.out _).mono ?_
          rintro e w4 ⟨rfl, rfl⟩
          go_wp2
          go_roundw
          case rel => exact ⟨k + 1, q + 1, b.set q x, by omega, by omega, by go_num, by go_num, Lib.hid (by rw [List.length_set]; exact HL.out), HR, HWS, HCS, HBS⟩
          case measure => simp [intOf]; omega
        · have e7' : inRg (x : Int) 2 1000 = false := by simp [inRg]; omega
          rw [e7'] at I
          have HR : Hid (R = none) := Lib.hid (by rw [HR1.out, sfold, HS.out, if_neg (fun h => e7 h.2)])
          have HBX := HBX3
          clear hl8 e7'
          go_wp2_with fail
          refine (I.out _).mono ?_
          rintro e w4 ⟨rfl, rfl⟩
          go_wp2
          go_ret2
          exact .inl ⟨HR.out, _, rfl, (HBX.out.alloc HBX.out.size _)⟩
    · obtain rfl : k = n := by omega
      have HR : Hid (R = some b) := Lib.hid (by
        rw [HRK.out, List.drop_of_length_le (by rw [← HWS.out, List.length_map, ← HN.out]; exact Nat.le_refl _)]; rfl)
      go_wp2
      go_ret2
      exact RdB.some HR.out (by rw [HL.out]; exact hk.2) HL.out.symm HBX.out HBD.out
end Go.Proofs.YtbnikblhnibgiaaDoor
