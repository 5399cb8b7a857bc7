/- A block that is filled element by element with data of their own; the laws' functions on lists of lists. -/
import Derived.Test.YtkoojiplfbcalaaK
namespace Go.Proofs.Ytkoojiplfbcalaa
open Go.RowKit

theorem OwL.setCell {w : World} : ∀ (ds : List D) (g o : Nat) (F : List Nat), OwL w ds g o F → g ∉ F → ∀ (i : Nat) (u : Value), o + ds.length ≤ i → OwL (w.setCell ⟨g, i, none⟩ u) ds g o F
  | [], _, _, _, r, _, _, _, _ => r
  | d :: ds, g, o, F, r, hg, i, u, hi => by
    obtain ⟨v, F1, F2, hc, hf, hd, hr, hF⟩ := r
    subst hF
    simp only [List.length_cons] at hi
    refine ⟨v, F1, F2, ?_, ?_, Ow.setCell hd (by intro h; exact hg (List.mem_append_left _ h)) u, OwL.setCell ds g (o + 1) F2 hr (fun h => hg (by simp [h])) i u (by omega), rfl⟩
    · rw [World.cell?_setCell_other _ _ _ _ (by intro e; simp at e <;> omega)]; exact hc
    · rw [World.frozen?_setCell]; exact hf
theorem OwL.snoc {w : World} {d : D} {v : Value} {F' : List Nat} : ∀ (ds : List D) (g o : Nat) (F : List Nat), OwL w ds g o F → w.cell? ⟨g, o + ds.length, none⟩ = some v → w.frozen? ⟨g, o + ds.length, none⟩ = false → Ow w d v F' → OwL w (ds ++ [d]) g o (F ++ F')
  | [], g, o, F, r, hc, hf, hd => by
    have r' : F = [] := r
    subst r'
    exact ⟨v, F', [], by simpa using hc, by simpa using hf, hd, rfl, by simp⟩
  | d0 :: ds, g, o, F, r, hc, hf, hd => by
    obtain ⟨v0, F1, F2, hc0, hf0, hd0, hr, hF⟩ := r
    subst hF
    refine ⟨v0, F1, F2 ++ F', hc0, hf0, hd0, OwL.snoc ds g (o + 1) F2 hr ?_ ?_ hd, by simp⟩
    · rw [show o + 1 + ds.length = o + (d0 :: ds).length from by simp; omega]; exact hc
    · rw [show o + 1 + ds.length = o + (d0 :: ds).length from by simp; omega]; exact hf
theorem OwL.below {w w' : World} {ds : List D} {g o : Nat} {F : List Nat} (h : OwL w ds g o F) (hb : Below w.heap.size w w') (hg : g < w.heap.size) : OwL w' ds g o F :=
  OwL.stable ds g o F (hb.block g hg) (fun k hk => hb.block k (OwL.lt ds g o F h k hk)) h
/-- Block g (made since w) holds the data ds in its first cells, each in memory of its own; n cells can be written. -/
structure Fil (w wr : World) (g n : Nat) (ds : List D) (F : List Nat) : Prop where
  below : Below w.heap.size w wr
  base : w.heap.size ≤ g
  lt : g < wr.heap.size
  own : OwL wr ds g 0 F
  out : g ∉ F
  nodup : F.Nodup
  fresh : ∀ x, x ∈ F → w.heap.size ≤ x
  has : ∀ i, i < n → ∃ v, wr.cell? ⟨g, i, none⟩ = some v
  free : ∀ i, wr.frozen? ⟨g, i, none⟩ = false
theorem Fil.carry {w wr w' : World} {g n : Nat} {ds : List D} {F : List Nat} (h : Fil w wr g n ds F) (hb : Below wr.heap.size wr w') : Fil w w' g n ds F := by
  have e : ∀ i, w'.cell? ⟨g, i, none⟩ = wr.cell? ⟨g, i, none⟩ := fun i => hb.cell (p := ⟨g, i, none⟩) h.lt
  exact ⟨bnext h.below hb (Nat.le_refl _), h.base, Nat.lt_of_lt_of_le h.lt hb.size, h.own.below hb h.lt, h.out, h.nodup, h.fresh, fun i hi => by rw [e]; exact h.has i hi, fun i => by rw [hb.frozen (p := ⟨g, i, none⟩) h.lt]; exact h.free i⟩
/-- One datum more. -/
theorem Fil.next {w wr w' : World} {g n : Nat} {ds : List D} {F : List Nat} {d : D} {v : Value} {F' : List Nat} (h : Fil w wr g n ds F) (hb : Below wr.heap.size wr w') (ho : Ow w' d v F') (hn : F'.Nodup) (hl : ∀ x, x ∈ F' → wr.heap.size ≤ x) (hk : ds.length < n) :
    Fil w (w'.setCell ⟨g, ds.length, none⟩ v) g n (ds ++ [d]) (F ++ F') := by
  have hc := h.carry hb
  have hg' : g ∉ F' := fun e => by have := hl g e; have := h.lt; omega
  obtain ⟨u, hu⟩ := hc.has _ hk
  refine ⟨hc.below.setCell hc.base _, hc.base, by rw [show (w'.setCell ⟨g, ds.length, none⟩ v).heap.size = w'.heap.size from (Exc.setCell w' ⟨g, ds.length, none⟩ v).size]; exact hc.lt, ?_, ?_, ?_, ?_, fun i hi => ?_, fun i => by rw [World.frozen?_setCell]; exact hc.free i⟩
  · exact OwL.snoc ds g 0 F (OwL.setCell ds g 0 F hc.own hc.out _ _ (by omega)) (by rw [Nat.zero_add]; exact World.cell?_setCell_same w' _ _ hu) (by rw [World.frozen?_setCell]; exact hc.free _) (Ow.setCell ho hg' v)
  · intro e; rcases List.mem_append.1 e with e | e
    · exact hc.out e
    · exact hg' e
  · refine List.nodup_append.2 ⟨hc.nodup, hn, fun a ha b hb' e => ?_⟩
    subst e
    have h1 := OwL.lt ds g 0 F h.own a ha
    have h2 := hl a hb'
    omega
  · intro x hx; rcases List.mem_append.1 hx with hx | hx
    · exact hc.fresh x hx
    · have := hl x hx; have := h.below.size; omega
  · by_cases e : i = ds.length
    · subst e; exact ⟨v, World.cell?_setCell_same w' _ _ hu⟩
    · obtain ⟨u', hu'⟩ := hc.has i hi
      exact ⟨u', by rw [World.cell?_setCell_other _ _ _ _ (by intro e'; simp at e' <;> omega)]; exact hu'⟩
theorem Fil.start {E : Nat} {w w0 : World} {n c : Nat} {z : Value} (h : Bld E w0 w.heap.size (.slice (some ⟨w.heap.size, 0, none⟩) n c) (List.replicate n z)) (hb : Below w.heap.size w w0) (hz : w.heap.size < w0.heap.size) : Fil w w0 w.heap.size n [] [] :=
  ⟨hb, Nat.le_refl _, hz, rfl, by simp, by simp, by simp, fun i hi => ⟨z, h.cell (by simp [hi])⟩, fun i => h.free i⟩
theorem Fil.ret {w wr : World} {g n : Nat} {ds : List D} {F : List Nat} (h : Fil w wr g n ds F) (hn : ds.length = n) (hm : n ≤ maxLen) : RetD w (.l 1 ds) (.returned (.slice (some ⟨g, 0, none⟩) n n)) wr := by
  by_cases e : ds = []
  · subst e
    simp at hn; subst hn
    exact ⟨_, [], rfl, h.below, Ow_empty _ _ _ _, by simp, by simp⟩
  · refine ⟨_, g :: F, rfl, h.below, ⟨_, n, n, rfl, by omega, hm, .inr ⟨g, 0, F, rfl, ⟨e, Nat.le_refl _⟩, rfl, h.own⟩⟩, List.nodup_cons.2 ⟨h.out, h.nodup⟩, fun x hx => ?_⟩
    rcases List.mem_cons.1 hx with rfl | hx
    · exact h.base
    · exact h.fresh x hx
theorem take_succ_II {xss : List (List Int)} {k : Nat} (h : k < xss.length) : (xss.take k).map dI ++ [dI (nthR xss k)] = (xss.take (k + 1)).map dI := by
  rw [nthR_lt h, List.take_succ_eq_append_getElem h, List.map_append]; rfl
set_option maxHeartbeats 1000000 in
theorem toInt64SS_c (S : Nat → Prop) (a : Option Addr) (c : Nat) (xs : List (List Int)) (w : World) (hx : SlII S w a xs) (l1 : xs.length ≤ 4294967296) (l2 : ∀ j, j < xs.length → (nthR xs j).length ≤ 4294967296) :
    Calls Try.prog 68 #[.slice a xs.length c] w (RetD w (dII xs)) := by
  have i1 := hx.ix tabII.under tabII.size c
  have L2 := Lib.hid l2
  clear l2
  go_enter Try.func68, Try.ntmps68
  go_wp2_with (at_make; refine make_one rfl _ _ 27 rfl tabII rfl (by decide) xs.length _ _ rfl rfl rfl rfl l1 w.heap.size (Nat.le_refl _) ?_)
  intro w0 hbl0 hb0 hz0
  have hfil := Fil.start hbl0 hb0 hz0
  clear hbl0 hb0 hz0
  go_wp2
  go_loopw [4] (fun i wr => ∃ (k : Nat) (F : List Nat), k ≤ xs.length ∧ i = .int .i64 k ∧ Fil w wr w.heap.size xs.length ((xs.take k).map dI) F) (fun i _ => xs.length - (intOf i).toNat)
  case atStart => exact ⟨0, [], Nat.zero_le _, rfl, hfil⟩
  case round =>
      obtain ⟨k, F, hk, rfl, hf⟩ := hrel
      clear hfil
      by_cases hlt : k < xs.length
      · obtain ⟨a1, c1, g1, h1⟩ := (hx.below hf.below).cell k hlt
        have HF := Lib.hid hf
        have hl2 := L2.out k hlt
        clear hf
        go_wp2_with fail
        refine (toInt64S_c S a1 c1 _ wr h1 hl2).mono ?_
        rintro e w' ⟨v, F', rfl, hb, ho, hn, hl⟩
        obtain ⟨a3, c3, rfl⟩ := ho.val
        have hlen : ((xs.take k).map dI).length = k := by simp; omega
        have HN := HF.out.next hb ho hn hl (by rw [hlen]; exact hlt)
        rw [hlen, take_succ_II hlt] at HN
        have hN := Lib.hid HN
        obtain ⟨u, e1⟩ := (HF.out.carry hb).has k hlt
        have e2 := (HF.out.carry hb).free k
        clear HN ho hb g1 h1
        go_wp2
        go_roundw
        case rel => exact ⟨k + 1, _, by omega, by go_num, hN.out⟩
        case measure => simp [intOf]; omega
      · have HF := Lib.hid hf
        clear hf
        go_wp2
        go_ret
        obtain rfl : k = xs.length := by omega
        have h := HF.out
        rw [List.take_length] at h
        exact h.ret (by simp) (by unfold maxLen; omega)
theorem SlII.any {S : Nat → Prop} {w : World} {a : Option Addr} {xs : List (List Int)} (h : SlII S w a xs) : SlII Any w a xs := ⟨h.len, fun h0 => ⟨trivial, (h.ptr h0).2⟩, fun i hi => by obtain ⟨a', c', h1, h2⟩ := h.cell i hi; exact ⟨a', c', h1, h2.any⟩⟩
theorem Ow.valII {w : World} {xs : List (List Int)} {v : Value} {F : List Nat} (h : Ow w (dII xs) v F) : ∃ a c, v = .slice a xs.length c := by
  obtain ⟨a, c, e, _⟩ := Rd_II.1 (Ow.rd _ _ _ h); exact ⟨a, c, e⟩
theorem Ow.argII {w : World} {xs : List (List Int)} {a : Option Addr} {n c : Nat} {F : List Nat} (h : Ow w (dII xs) (.slice a n c) F) : SlII Any w a xs := by
  obtain ⟨a', c', e, h'⟩ := Rd_II.1 (Ow.rd _ _ _ h); cases e; exact h'.any
/-- The law's measure of an argument: what is left of left; if that isn't below 0, P. -/
def RetSz (w : World) (left : Int) (p : Prop) (e : Ending) (w' : World) : Prop := ∃ L : Int, e = .returned (.int .i64 L) ∧ Below w.heap.size w w' ∧ -1 ≤ L ∧ L ≤ left ∧ (0 ≤ L → p)
def fitI (left : Int) (xs : List Int) : Prop := (xs.length : Int) ≤ left
def fitII (left : Int) (xs : List (List Int)) : Prop := (xs.length : Int) ≤ left ∧ ∀ j, j < xs.length → ((nthR xs j).length : Int) ≤ left
theorem szI_c (xs : List Int) (a : Option Addr) (c : Nat) (left : Int) (w : World) (hn : xs.length ≤ maxLen) (h0 : 0 ≤ left) (h1 : left ≤ 1048576) :
    Calls Try.prog 57 #[.slice a xs.length c, .int .i64 left] w (RetSz w left (fitI left xs)) := by
  refine (szInt64S_c a xs.length c left w hn h0 h1).mono ?_
  rintro e w' ⟨rfl, rfl⟩
  refine ⟨_, rfl, Below.refl _ _, ?_, ?_, fun h => ?_⟩ <;> (try unfold fitI) <;> split at * <;> omega
set_option maxHeartbeats 800000 in
theorem szII_c (S : Nat → Prop) (xs : List (List Int)) (a : Option Addr) (c : Nat) (left : Int) (w : World) (hx : SlII S w a xs) (h0 : 0 ≤ left) (h1 : left ≤ 1048576) :
    Calls Try.prog 60 #[.slice a xs.length c, .int .i64 left] w (RetSz w left (fitII left xs)) := by
  have l1 := hx.len
  unfold maxLen at l1
  have i1 := hx.ix tabII.under tabII.size c
  by_cases hq : left < xs.length
  · go_enter Try.func60, Try.ntmps60
    go_wp2
    go_ret
    exact ⟨-1, rfl, Below.refl _ _, by omega, by omega, fun h => absurd h (by omega)⟩
  · go_enter Try.func60, Try.ntmps60
    go_wp2
    go_loopw [1, 5] (fun q i wr => ∃ (k : Nat) (l : Int), k ≤ xs.length ∧ i = .int .i64 k ∧ q = .int .i64 l ∧ 0 ≤ l ∧ l ≤ left ∧ Below w.heap.size w wr ∧ ∀ j, j < k → ((nthR xs j).length : Int) ≤ left) (fun _ i _ => xs.length - (intOf i).toNat)
    case atStart => exact ⟨0, left - xs.length, Nat.zero_le _, rfl, by simp, by omega, by omega, Below.refl _ _, by omega⟩
    case round =>
      obtain ⟨k, l, hk, rfl, rfl, b0, b1, hb, hj⟩ := hrel
      have HJ := Lib.hid hj
      clear hj
      by_cases hlt : k < xs.length
      · obtain ⟨a1, c1, g1, hh⟩ := (hx.below hb).cell k hlt
        have hm := hh.len
        have HB := Lib.hid hb
        clear hb
        go_wp2_with fail
        refine (szI_c _ a1 c1 l _ hm b0 (by omega)).mono ?_
        rintro e w' ⟨L, rfl, hb', d0, d1, d2⟩
        have hbb := bnext HB.out hb' (Nat.le_refl _)
        have H2 := Lib.hid d2
        clear hb' d2
        by_cases hL : L < 0
        · go_wp2
          go_ret
          exact ⟨-1, rfl, hbb, by omega, by omega, fun h => absurd h (by omega)⟩
        · go_wp2
          go_roundw
          case rel => exact ⟨k + 1, L, by omega, by go_num, rfl, by omega, by omega, hbb, upto HJ.out (by have := H2.out (by omega); unfold fitI at this; omega)⟩
          case measure => simp [intOf]; omega
      · go_wp2
        go_ret
        have e : k = xs.length := by omega
        exact ⟨l, rfl, hb, by omega, by omega, fun _ => ⟨by omega, fun j hj' => HJ.out j (by omega)⟩⟩

/- The laws' functions on struct values whose fields are numbers and slices: measure, copy, compare. Written by structgen.py. -/
theorem fitI.mono {l m : Int} {xs : List Int} (h : fitI l xs) (hl : l ≤ m) : fitI m xs := by unfold fitI at *; omega
theorem fitII.mono {l m : Int} {xs : List (List Int)} (h : fitII l xs) (hl : l ≤ m) : fitII m xs := ⟨by have := h.1; omega, fun j hj => by have := h.2 j hj; omega⟩
theorem fitI.to {xs : List Int} (h : fitI 1048576 xs) : xs.length ≤ 4294967296 := by unfold fitI at h; omega
theorem fitII.to {xs : List (List Int)} (h : fitII 1048576 xs) : xs.length ≤ 4294967296 ∧ ∀ j, j < xs.length → (nthR xs j).length ≤ 4294967296 := ⟨by have := h.1; omega, fun j hj => by have := h.2 j hj; omega⟩
theorem Ow.box {w : World} {d : D} {v : Value} {F : List Nat} {B : Nat} (h : Ow w d v F) (hF : ∀ g, g ∈ F → B < g) (i : Nat) (u : Value) : Ow (w.setCell ⟨B, i, none⟩ u) d v F :=
  Ow.setCell h (fun hg => Nat.lt_irrefl _ (hF _ hg)) u
/-- The values hold the data, one by one, in the blocks F. -/
def OwA (w : World) : List D → List Value → List Nat → Prop
  | [], [], F => F = []
  | d :: ds, v :: vs, F => ∃ F1 F2, Ow w d v F1 ∧ OwA w ds vs F2 ∧ F = F1 ++ F2
  | _, _, _ => False
/-- The call returns a struct whose fields' data lie in memory of their own. -/
def RetA (w : World) (ds : List D) (e : Ending) (w' : World) : Prop := ∃ vs F, e = .returned (.agg ⟨vs⟩) ∧ Below w.heap.size w w' ∧ OwA w' ds vs F ∧ F.Nodup ∧ ∀ g, g ∈ F → w.heap.size ≤ g
theorem nodup_next {F G : List Nat} (B : Nat) (h1 : F.Nodup) (h2 : G.Nodup) (hF : ∀ g, g ∈ F → g < B) (hG : ∀ g, g ∈ G → B ≤ g) : (F ++ G).Nodup :=
  List.nodup_append.2 ⟨h1, h2, fun a ha b hb e => by subst e; have := hF a ha; have := hG a hb; omega⟩
theorem szSlI_c (S : Nat → Prop) (xs : List Int) (a : Option Addr) (c : Nat) (left : Int) (w : World) (hx : SlI S w a xs) (h0 : 0 ≤ left) (h1 : left ≤ 1048576) :
    Calls Try.prog 57 #[.slice a xs.length c, .int .i64 left] w (RetSz w left (fitI left xs)) := szI_c xs a c left w hx.len h0 h1
set_option maxHeartbeats 1000000 in
theorem szStock_c (S : Nat → Prop) (a_x0 : Option Addr) (c_x0 : Nat) (x0 : List (List Int)) (a_x1 : Option Addr) (c_x1 : Nat) (x1 : List Int) (left : Int) (w : World) (h_x0 : SlII S w a_x0 x0) (h_x1 : SlI S w a_x1 x1) (h0 : 0 ≤ left) (h1 : left ≤ 1048576) :
    Calls Try.prog 11 #[.agg #[.slice a_x0 x0.length c_x0, .slice a_x1 x1.length c_x1], .int .i64 left] w (RetSz w left (fitII left x0 ∧ fitI left x1)) := by
  have hb0 : Below w.heap.size w (w.alloc (.cells #[.slice a_x0 x0.length c_x0, .slice a_x1 x1.length c_x1] 29)) := below_alloc _ _
  have H_x0 := Lib.hid (fun (l : Int) (wx : World) (hb : Below w.heap.size w wx) => szII_c S x0 a_x0 c_x0 l wx (h_x0.below hb))
  have H_x1 := Lib.hid (fun (l : Int) (wx : World) (hb : Below w.heap.size w wx) => szSlI_c S x1 a_x1 c_x1 l wx (h_x1.below hb))
  have HB0 := Lib.hid hb0
  clear hb0 h_x0 h_x1
  go_enter Try.func11, Try.ntmps11
  go_wp2_with fail
  refine (H_x0.out left _ HB0.out (by omega) (by omega)).mono ?_
  rintro e w1 ⟨L1, rfl, hb1, d1, e1, p1⟩
  have g1_x1 : w1.cell? ⟨w.heap.size, 1, none⟩ = some (.slice a_x1 x1.length c_x1) := by rw [bcell1 hb1 (by first | omega | (simp; done) | (simp; omega))]; simp [go_sem]
  have HB1 := Lib.hid (bnext HB0.out hb1 (by first | omega | (simp; done) | (simp; omega)))
  have hz1 : w.heap.size < w1.heap.size := by have := hb1.size; (try simp at this); omega
  have P1 := Lib.hid p1
  clear hb1 p1
  by_cases n1 : L1 < 0
  · go_wp2
    go_ret
    exact ⟨-1, rfl, HB1.out, by omega, by omega, fun h => absurd h (by omega)⟩
  · have n1' : 0 ≤ L1 := by omega
    go_wp2_with fail
    refine (H_x1.out L1 _ HB1.out (by omega) (by omega)).mono ?_
    rintro e w2 ⟨L2, rfl, hb2, d2, e2, p2⟩
    have HB2 := Lib.hid (bnext HB1.out hb2 (by first | omega | (simp; done) | (simp; omega)))
    have hz2 : w.heap.size < w2.heap.size := by have := hb2.size; (try simp at this); omega
    have P2 := Lib.hid p2
    clear hb2 p2 g1_x1
    by_cases n2 : L2 < 0
    · go_wp2
      go_ret
      exact ⟨-1, rfl, HB2.out, by omega, by omega, fun h => absurd h (by omega)⟩
    · have n2' : 0 ≤ L2 := by omega
      go_wp2
      go_ret
      exact ⟨L2, rfl, HB2.out, by omega, by omega, fun _ => ⟨(P1.out n1').mono (by omega), (P2.out n2').mono (by omega)⟩⟩
set_option maxHeartbeats 1000000 in
theorem toStock_c (S : Nat → Prop) (a_x0 : Option Addr) (c_x0 : Nat) (x0 : List (List Int)) (a_x1 : Option Addr) (c_x1 : Nat) (x1 : List Int) (w : World) (h_x0 : SlII S w a_x0 x0) (h_x1 : SlI S w a_x1 x1) (l_x0 : fitII 1048576 x0) (l_x1 : fitI 1048576 x1) :
    Calls Try.prog 14 #[.agg #[.slice a_x0 x0.length c_x0, .slice a_x1 x1.length c_x1]] w (RetA w [dII x0, dI x1]) := by
  have H_x0 := Lib.hid (fun (wx : World) (hb : Below w.heap.size w wx) => toInt64SS_c S a_x0 c_x0 x0 wx (h_x0.below hb) l_x0.to.1 l_x0.to.2)
  have H_x1 := Lib.hid (fun (wx : World) (hb : Below w.heap.size w wx) => toInt64S_c S a_x1 c_x1 x1 wx (h_x1.below hb) l_x1.to)
  clear h_x0 l_x0 h_x1 l_x1
  go_enter Try.func14, Try.ntmps14
  go_wp2_with fail
  refine (H_x0.out _ (by repeat (first | exact Below.refl _ _ | assumption | refine Below.alloc ?_ (by simp; try omega) _ | refine Below.setCell ?_ (by simp; try omega) _))).mono ?_
  rintro e w1 ⟨v1, F1, rfl, hb1, ho1_1, hn1, hl1⟩
  obtain ⟨a1, c1, rfl⟩ := ho1_1.valII
  have hB1 : Below w.heap.size w w1 := bnext (by repeat (first | exact Below.refl _ _ | assumption | refine Below.alloc ?_ (by simp; try omega) _ | refine Below.setCell ?_ (by simp; try omega) _)) hb1 (by simp; try omega)
  obtain ⟨hc1, hf1⟩ := bcell hb1
  have hz1 : w.heap.size + 2 < w1.heap.size := by have := hb1.size; simp at this; omega
  have hv1 : w.heap.size + 1 < w1.heap.size := by omega
  have hu1 : w.heap.size < w1.heap.size := by omega
  have fr1 : ∀ g, g ∈ F1 → w.heap.size + 2 < g := fun g hg => by have := hl1 g hg; simp at this; omega
  have HO1_1 := Lib.hid ho1_1
  have HR1 := Lib.hid fr1
  have HN1 := Lib.hid hn1
  have HB1 := Lib.hid hB1
  clear hb1 hl1 fr1 hn1 hB1  ho1_1
  go_wp2_with fail
  refine (H_x1.out _ (by repeat (first | exact Below.refl _ _ | assumption | refine Below.alloc ?_ (by simp; try omega) _ | refine Below.setCell ?_ (by simp; try omega) _))).mono ?_
  rintro e w2 ⟨v2, F2, rfl, hb2, ho2_2, hn2, hl2⟩
  obtain ⟨a2, c2, rfl⟩ := ho2_2.val
  have hB2 : Below w.heap.size w w2 := bnext (by repeat (first | exact Below.refl _ _ | assumption | refine Below.alloc ?_ (by simp; try omega) _ | refine Below.setCell ?_ (by simp; try omega) _)) hb2 (by simp; try omega)
  obtain ⟨hc2, hf2⟩ := bcell hb2
  have hz2 : w.heap.size + 2 < w2.heap.size := by have := hb2.size; simp at this; omega
  have hv2 : w.heap.size + 1 < w2.heap.size := by omega
  have hu2 : w.heap.size < w2.heap.size := by omega
  have hy2 : w1.heap.size ≤ w2.heap.size := by have := hb2.size; simpa using this
  have fr2 : ∀ g, g ∈ F2 → w.heap.size + 2 < g := fun g hg => by have := hl2 g hg; simp at this; omega
  have fs2 : ∀ g, g ∈ F2 → w1.heap.size ≤ g := fun g hg => by have := hl2 g hg; simp at this; omega
  have ho1_2 := (Ow.box HO1_1.out HR1.out _ _).below hb2
  have HO1_2 := Lib.hid ho1_2
  have HO2_2 := Lib.hid ho2_2
  have HR2 := Lib.hid fr2
  have HN2 := Lib.hid hn2
  have HB2 := Lib.hid hB2
  have HS2 := Lib.hid fs2
  clear hb2 hl2 fr2 hn2 hB2 fs2 ho1_2 ho2_2
  go_wp2
  refine bodyPost_end (v := .agg #[.slice a1 x0.length c1, .slice a2 x1.length c2]) (by simp [results, Try.results14, go_sem, hc1, hv1, hc2]) rfl ?_
  have hR1 := HR1.out
  have hT1 : ∀ g, g ∈ F1 → g < w1.heap.size := Ow.lt _ _ _ HO1_1.out
  have hR2 := HR2.out
  have hS2 := HS2.out
  have hT2 : ∀ g, g ∈ F2 → g < w2.heap.size := Ow.lt _ _ _ HO2_2.out
  refine ⟨[.slice a1 x0.length c1, .slice a2 x1.length c2], (F1 ++ (F2 ++ [])), rfl, ?be, ⟨F1, _, ?o1, ⟨F2, _, ?o2, rfl, rfl⟩, rfl⟩, ?nd, ?fr⟩
  case be => repeat (first | exact HB2.out | refine Below.setCell ?_ (by simp; try omega) _)
  case o1 => repeat (first | exact HO1_2.out | refine Ow.setCell ?_ (by intro hg; have := hR1 _ hg; simp at this; try omega) _)
  case o2 => repeat (first | exact HO2_2.out | refine Ow.setCell ?_ (by intro hg; have := hR2 _ hg; simp at this; try omega) _)
  case nd =>
    simp only [List.append_nil]
    exact nodup_next w1.heap.size HN1.out (HN2.out) hT1 (fun g hg => hS2 g hg)
  case fr =>
    intro g hg
    simp only [List.append_nil, List.mem_append] at hg
    rcases hg with hg | hg
    · have := hR1 g hg; omega
    · have := hR2 g hg; omega
set_option maxHeartbeats 1000000 in
theorem eqStock_c (a_x0 : Option Addr) (c_x0 : Nat) (x0 : List (List Int)) (a_x1 : Option Addr) (c_x1 : Nat) (x1 : List Int) (a2_x0 : Option Addr) (c2_x0 : Nat) (a2_x1 : Option Addr) (c2_x1 : Nat) (w : World) (h_x0 : SlII Any w a_x0 x0) (h_x1 : SlI Any w a_x1 x1) (h2_x0 : SlII Any w a2_x0 x0) (h2_x1 : SlI Any w a2_x1 x1) :
    Calls Try.prog 18 #[.agg #[.slice a_x0 x0.length c_x0, .slice a_x1 x1.length c_x1], .agg #[.slice a2_x0 x0.length c2_x0, .slice a2_x1 x1.length c2_x1]] w (RetV w (.bool true)) := by
  have hb : Below w.heap.size w ((w.alloc (.cells #[.slice a_x0 x0.length c_x0, .slice a_x1 x1.length c_x1] 38)).alloc (.cells #[.slice a2_x0 x0.length c2_x0, .slice a2_x1 x1.length c2_x1] 38)) := ((Below.refl _ _).alloc (Nat.le_refl _) _).alloc (by simp) _
  have H_x0 := Lib.hid (fun (wx : World) (hb : Below w.heap.size w wx) => eqInt64SS_c Any Any a_x0 a2_x0 c_x0 c2_x0 x0 wx (h_x0.below hb) (h2_x0.below hb))
  have H_x1 := Lib.hid (fun (wx : World) (hb : Below w.heap.size w wx) => eqInt64S_c Any Any a_x1 a2_x1 c_x1 c2_x1 x1 wx (h_x1.below hb) (h2_x1.below hb))
  have HB0 := Lib.hid hb
  clear hb h_x0 h2_x0 h_x1 h2_x1
  go_enter Try.func18, Try.ntmps18
  go_wp2_with fail
  refine (H_x0.out _ (HB0.out)).mono ?_
  rintro e w1 ⟨rfl, n1, rfl⟩
  go_wp2_with fail
  refine (H_x1.out _ (HB0.out.trans (below_drewN _ _ _))).mono ?_
  rintro e w2 ⟨rfl, n2, rfl⟩
  go_wp2
  go_ret
  exact ⟨rfl, HB0.out.trans (by repeat (first | exact Below.refl _ _ | exact below_drewN _ _ _ | refine Below.trans ?_ (below_drewN _ _ _)))⟩
end Go.Proofs.Ytkoojiplfbcalaa
