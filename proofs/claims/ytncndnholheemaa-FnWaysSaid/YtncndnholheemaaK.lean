/- Contracts of the laws' own functions on lists of numbers: copy, compare, mark, look at marks. -/
import Derived.Test.YtncndnholheemaaD
namespace Go.Proofs.Ytncndnholheemaa
open Go.RowKit

set_option maxHeartbeats 400000 in
theorem toInt64S_c (S : Nat → Prop) (a : Option Addr) (c : Nat) (xs : List Int) (w : World) (hx : SlI S w a xs) (l1 : xs.length ≤ 4294967296) :
    Calls Try.prog 21 #[.slice a xs.length c] w (RetD w (dI xs)) := by
  have i1 := hx.ix tabI.under tabI.size c
  go_enter Try.func21, Try.ntmps21
  go_wp2_with (at_make; refine make_one rfl _ _ 24 rfl tabI rfl (by decide) xs.length _ _ rfl rfl rfl rfl l1 w.heap.size (Nat.le_refl _) ?_)
  intro w0 hbl0 hb0 hz0
  rw [fill_zero _ _ (fun i => .int .i64 (nth xs i))] at hbl0
  go_wp2
  go_loopw [4] (fun i wr => ∃ k : Nat, k ≤ xs.length ∧ i = .int .i64 k ∧ Below w.heap.size w wr ∧ Bld 2 wr w.heap.size (.slice (some ⟨w.heap.size, 0, none⟩) xs.length xs.length) (fill xs.length (.int .i64 0) (fun i => .int .i64 (nth xs i)) k)) (fun i _ => xs.length - (intOf i).toNat)
  case atStart => exact ⟨0, Nat.zero_le _, rfl, hb0, hbl0⟩
  case round =>
      obtain ⟨k, hk, rfl, hb, hbl⟩ := hrel
      have HB := Lib.hid hb
      have HL := Lib.hid hbl
      by_cases hlt : k < xs.length
      · have g1 := (hx.below hb).cell k hlt
        have g2 := hbl.cell (fill_at hlt)
        have g3 := hbl.free k
        clear hb hbl hbl0
        go_wp2
        go_roundw
        case rel => exact ⟨k + 1, by omega, by go_num, HB.out.setCell (by exact Nat.le_refl _) _, by have := HL.out.set k (.int .i64 (nth xs k)); rw [fill_set (g := fun i => .int .i64 (nth xs i))] at this; exact this⟩
        case measure => simp [intOf]; omega
      · clear hb hbl hbl0
        go_wp2
        go_ret
        obtain rfl : k = xs.length := by omega
        have h := HL.out
        rw [fill_ints] at h
        exact RetD.ofBld h (by unfold maxLen; omega) HB.out
set_option maxHeartbeats 400000 in
theorem eqInt64S_c (S T : Nat → Prop) (a b : Option Addr) (c c' : Nat) (xs : List Int) (w : World) (hx : SlI S w a xs) (hy : SlI T w b xs) :
    Calls Try.prog 23 #[.slice a xs.length c, .slice b xs.length c'] w (RetQ w (.bool true)) := by
  have l1 := hx.len
  unfold maxLen at l1
  have i1 := hx.ix tabI.under tabI.size c
  have i2 := hy.ix tabI.under tabI.size c'
  go_enter Try.func23, Try.ntmps23
  go_wp2
  go_loopw [5] (fun i wr => ∃ k n : Nat, k ≤ xs.length ∧ i = .int .i64 k ∧ wr = w.drewN n) (fun i _ => xs.length - (intOf i).toNat)
  case atStart => exact ⟨0, 0, Nat.zero_le _, rfl, rfl⟩
  case round =>
      obtain ⟨k, n, hk, rfl, rfl⟩ := hrel
      by_cases hlt : k < xs.length
      · have g1 := hx.cell k hlt
        have g2 := hy.cell k hlt
        go_wp2
        go_quiet (fail)
        go_wp2
        go_roundw
        case rel => exact ⟨k + 1, _, by omega, by go_num, rfl⟩
        case measure => simp [intOf]; omega
      · go_wp2
        go_ret
        exact ⟨rfl, n, rfl⟩
/-- Behind k marks. -/
structure Mkd (F : List Nat) (w wr : World) (a : Option Addr) (xs : List Int) (m : Int) (k : Nat) : Prop where
  exc : Exc F w wr
  done : ∀ i, i < k → wr.cell? (adr a i) = some (.int .i64 (m + i))
  rest : ∀ i, k ≤ i → i < xs.length → wr.cell? (adr a i) = some (.int .i64 (nth xs i))
  free : ∀ i, i < xs.length → wr.frozen? (adr a i) = false
theorem adr_ne {a : Option Addr} {i j : Nat} (h : i ≠ j) : adr a i ≠ adr a j := by
  intro e; simp [adr] at e; omega
theorem Mkd.next {F : List Nat} {w wr : World} {a : Option Addr} {xs : List Int} {m : Int} {k : Nat} (h : Mkd F w wr a xs m k) (hk : k < xs.length) (hF : blk a ∈ F) : Mkd F w (wr.setCell (adr a k) (.int .i64 (m + k))) a xs m (k + 1) :=
  ⟨h.exc.trans ((Exc.setCell wr (adr a k) _).wider (by intro g hg; simp at hg; subst hg; exact hF)), fun i hi => by
      by_cases e : i = k
      · subst e; exact World.cell?_setCell_same wr _ _ (h.rest i (Nat.le_refl _) hk)
      · rw [World.cell?_setCell_other _ _ _ _ (adr_ne (Ne.symm e))]; exact h.done i (by omega),
    fun i hi hx => by rw [World.cell?_setCell_other _ _ _ _ (adr_ne (by omega))]; exact h.rest i (by omega) hx,
    fun i hi => by rw [World.frozen?_setCell]; exact h.free i hi⟩
/-- The call has marked what it was given from m on: behind it the datum reads as its marks. -/
def RetM (w : World) (F : List Nat) (m : Int) (n : Nat) (d : D) (v : Value) (e : Ending) (w' : World) : Prop := e = .returned (.int .i64 (m + n)) ∧ Exc F w w' ∧ Ow w' d v F
set_option maxHeartbeats 400000 in
theorem markInt64S_c8 (F : List Nat) (a : Option Addr) (c : Nat) (xs : List Int) (m : Int) (w : World) (hcp : xs.length ≤ c) (hx : OwI w a xs F) (l1 : xs.length ≤ 4294967296) (m0 : 0 ≤ m) (m1 : m ≤ 34359738368) :
    Calls Try.prog 26 #[.slice a xs.length c, .int .i64 m] w (RetM w F m xs.length (dI (marks m xs.length)) (.slice a xs.length c)) := by
  have i1 := ix_of (P := Try.prog) tabI.under tabI.size (a := a) (n := xs.length) (fun h0 => by
    rcases hx.foot with ⟨rfl, _⟩ | ⟨_, h, _⟩
    · simp at h0
    · exact h) c
  simp only [Nat.mul_one] at i1
  have hF : 0 < xs.length → blk a ∈ F := fun h0 => by
    rcases hx.foot with ⟨rfl, _⟩ | ⟨_, _, rfl⟩
    · simp at h0
    · simp
  have HF := Lib.hid hF
  have HCP := Lib.hid hcp
  clear hF hcp
  go_enter Try.func26, Try.ntmps26
  go_wp2
  go_loopw [1, 5] (fun q i wr => ∃ k : Nat, k ≤ xs.length ∧ i = .int .i64 k ∧ q = .int .i64 (m + k) ∧ Mkd F w wr a xs m k) (fun _ i _ => xs.length - (intOf i).toNat)
  case atStart => exact ⟨0, Nat.zero_le _, rfl, by simp, Exc.refl _ _, by omega, fun i _ hi => hx.cell i hi, hx.free⟩
  case round =>
      obtain ⟨k, hk, rfl, rfl, hm⟩ := hrel
      by_cases hlt : k < xs.length
      · have g1 := hm.rest k (Nat.le_refl _) hlt
        have g2 := hm.free k hlt
        have HM := Lib.hid (hm.next hlt (HF.out (by omega)))
        clear hm
        go_wp2
        go_roundw
        case rel => exact ⟨k + 1, by omega, by go_num, by congr 1; omega, HM.out⟩
        case measure => simp [intOf]; omega
      · go_wp2
        go_ret
        obtain rfl : k = xs.length := by omega
        refine ⟨rfl, hm.exc, Ow_I.2 ⟨a, c, by rw [marks_len], by rw [marks_len]; exact HCP.out, by rw [marks_len]; exact hx.len, ?_, fun i hi => ?_, fun i hi => ?_⟩⟩
        · rcases hx.foot with ⟨rfl, h⟩ | ⟨h1, h2, h3⟩
          · exact .inl ⟨rfl, h⟩
          · refine .inr ⟨fun e => h1 ?_, h2, h3⟩
            have := congrArg List.length e
            rw [marks_len] at this
            exact List.eq_nil_of_length_eq_zero this
        · rw [marks_len] at hi; rw [marks_at hi]; exact hm.done i hi
        · rw [marks_len] at hi; exact hm.free i hi
set_option maxHeartbeats 400000 in
theorem heldInt64S_c8 (S : Nat → Prop) (a : Option Addr) (c : Nat) (n : Nat) (m : Int) (w : World) (hx : SlI S w a (marks m n)) (l1 : n ≤ 4294967296) (m0 : 0 ≤ m) (m1 : m ≤ 34359738368) :
    Calls Try.prog 27 #[.slice a n c, .int .i64 m] w (RetP w (.int .i64 (m + n))) := by
  have hc := hx.cell
  have i1 := hx.ix tabI.under tabI.size c
  rw [marks_len] at i1 hc
  have HC := Lib.hid hc
  clear hc
  go_enter Try.func27, Try.ntmps27
  go_wp2
  go_loopw [1, 5] (fun q i wr => ∃ k : Nat, k ≤ n ∧ i = .int .i64 k ∧ q = .int .i64 (m + k) ∧ w = wr) (fun _ i _ => n - (intOf i).toNat)
  case atStart => exact ⟨0, Nat.zero_le _, rfl, by simp, rfl⟩
  case round =>
      obtain ⟨k, hk, rfl, rfl, rfl⟩ := hrel
      by_cases hlt : k < n
      · have g1 := HC.out k hlt
        rw [marks_at hlt] at g1
        go_wp2
        go_roundw
        case rel => exact ⟨k + 1, by omega, by go_num, by congr 1; omega, trivial⟩
        case measure => simp [intOf]; omega
      · go_wp2
        go_ret
        obtain rfl : k = n := by omega
        exact ⟨rfl, rfl⟩
theorem markInt64S_c (F : List Nat) (a : Option Addr) (c : Nat) (xs : List Int) (m : Int) (w : World) (hcp : xs.length ≤ c) (hx : OwI w a xs F) (l1 : xs.length ≤ 4294967296) (m0 : 0 ≤ m) (m1 : m ≤ 4294967296) :
    Calls Try.prog 26 #[.slice a xs.length c, .int .i64 m] w (RetM w F m xs.length (dI (marks m xs.length)) (.slice a xs.length c)) := markInt64S_c8 F a c xs m w hcp hx l1 m0 (by omega)
theorem heldInt64S_c (S : Nat → Prop) (a : Option Addr) (c : Nat) (n : Nat) (m : Int) (w : World) (hx : SlI S w a (marks m n)) (l1 : n ≤ 4294967296) (m0 : 0 ≤ m) (m1 : m ≤ 4294967296) :
    Calls Try.prog 27 #[.slice a n c, .int .i64 m] w (RetP w (.int .i64 (m + n))) := heldInt64S_c8 S a c n m w hx l1 m0 (by omega)

/- Contracts of the functions that compare lists of numbers, lists of lists, lists of bools; and of the laws' sizes. -/
theorem tabII : Tab Try.prog 29 24 (.slice none 0 0) 1 24 := ⟨by kernel_rfl, by kernel_rfl⟩
theorem eq_of_nth {xs ys : List Int} (hl : xs.length = ys.length) (h : ∀ j, j < xs.length → nth xs j = nth ys j) : xs = ys := by
  refine List.ext_getElem hl fun i h1 h2 => ?_
  have := h i h1
  rwa [nth_lt h1, nth_lt h2] at this
theorem eq_of_nthR {xs ys : List (List Int)} (hl : xs.length = ys.length) (h : ∀ j, j < xs.length → nthR xs j = nthR ys j) : xs = ys := by
  refine List.ext_getElem hl fun i h1 h2 => ?_
  have := h i h1
  rwa [nthR_lt h1, nthR_lt h2] at this
theorem stillP {P : Program} {f : FuncId} {args : Array Value} {w : World} {n : Nat} {v : Value} (h : Calls P f args (w.drewN n) (RetP (w.drewN n) v)) : Calls P f args (w.drewN n) fun e w'' => e = .returned v ∧ ∃ m, w'' = w.drewN m :=
  h.mono fun _ _ ⟨he, hm⟩ => ⟨he, n, hm.symm⟩
theorem stillQ {P : Program} {f : FuncId} {args : Array Value} {w : World} {n : Nat} {v : Value} (h : Calls P f args (w.drewN n) (RetQ (w.drewN n) v)) : Calls P f args (w.drewN n) fun e w'' => e = .returned v ∧ ∃ m, w'' = w.drewN m :=
  h.mono fun _ _ ⟨he, m, hm⟩ => ⟨he, n + m, by rw [hm, World.drewN_drewN]⟩
theorem stillP2 {P : Program} {f : FuncId} {args : Array Value} {w : World} {n a : Nat} {v : Value} (h : Calls P f args (w.drewN (n + a)) (RetP (w.drewN (n + a)) v)) : Calls P f args (w.drewN (n + a)) fun e w'' => e = .returned v ∧ ∃ m, w'' = w.drewN (n + m) :=
  h.mono fun _ _ ⟨he, hm⟩ => ⟨he, a, hm.symm⟩
theorem stillQ2 {P : Program} {f : FuncId} {args : Array Value} {w : World} {n a : Nat} {v : Value} (h : Calls P f args (w.drewN (n + a)) (RetQ (w.drewN (n + a)) v)) : Calls P f args (w.drewN (n + a)) fun e w'' => e = .returned v ∧ ∃ m, w'' = w.drewN (n + m) :=
  h.mono fun _ _ ⟨he, m, hm⟩ => ⟨he, a + m, by rw [hm, World.drewN_drewN, Nat.add_assoc]⟩
/-- Are two lists the same? -/
def eqI (xs ys : List Int) : Bool := decide (xs = ys)
def eqII (xs ys : List (List Int)) : Bool := decide (xs = ys)
theorem eqI_len {xs ys : List Int} (h : ¬ xs.length = ys.length) : eqI xs ys = false := decide_eq_false fun e => h (by rw [e])
theorem eqI_false {xs ys : List Int} {j : Nat} (h : ¬ nth xs j = nth ys j) : eqI xs ys = false := decide_eq_false fun e => h (by rw [e])
theorem eqI_true {xs ys : List Int} (hl : xs.length = ys.length) (h : ∀ j, j < xs.length → nth xs j = nth ys j) : eqI xs ys = true := decide_eq_true (eq_of_nth hl h)
theorem eqI_refl (xs : List Int) : eqI xs xs = true := decide_eq_true rfl
theorem eqI_eq {xs ys : List Int} (h : eqI xs ys = true) : xs = ys := of_decide_eq_true h
theorem eqI_ne {xs ys : List Int} (h : eqI xs ys = false) : xs ≠ ys := of_decide_eq_false h
theorem eqII_len {xs ys : List (List Int)} (h : ¬ xs.length = ys.length) : eqII xs ys = false := decide_eq_false fun e => h (by rw [e])
theorem eqII_false {xs ys : List (List Int)} {j : Nat} (h : eqI (nthR xs j) (nthR ys j) = false) : eqII xs ys = false := decide_eq_false fun e => eqI_ne h (by rw [e])
theorem eqII_true {xs ys : List (List Int)} (hl : xs.length = ys.length) (h : ∀ j, j < xs.length → eqI (nthR xs j) (nthR ys j) = true) : eqII xs ys = true := decide_eq_true (eq_of_nthR hl fun j hj => eqI_eq (h j hj))
theorem eqII_refl (xs : List (List Int)) : eqII xs xs = true := decide_eq_true rfl
theorem eqII_eq {xs ys : List (List Int)} (h : eqII xs ys = true) : xs = ys := of_decide_eq_true h
set_option maxHeartbeats 400000 in
theorem l00Same_c (S T : Nat → Prop) (a b : Option Addr) (c c' : Nat) (xs ys : List Int) (w : World) (hx : SlI S w a xs) (hy : SlI T w b ys) :
    Calls Try.prog 114 #[.slice a xs.length c, .slice b ys.length c'] w (RetQ w (.bool (eqI xs ys))) := by
  have l1 := hx.len
  have l2 := hy.len
  unfold maxLen at l1 l2
  cases hl : ((xs.length : Int) != ys.length)
  · have hq : xs.length = ys.length := by simp at hl; omega
    have HQ := Lib.hid hq
    clear hq
    have i1 := hx.ix tabI.under tabI.size c
    have i2 := hy.ix tabI.under tabI.size c'
    go_enter Try.func114, Try.ntmps114
    go_wp2
    go_loopw [5] (fun i wr => ∃ k n : Nat, k ≤ xs.length ∧ i = .int .i64 k ∧ wr = w.drewN n ∧ (∀ j, j < k → nth xs j = nth ys j)) (fun i _ => xs.length - (intOf i).toNat)
    case atStart => exact ⟨0, 0, Nat.zero_le _, rfl, rfl, by omega⟩
    case round =>
        obtain ⟨k, n, hk, rfl, rfl, hj⟩ := hrel
        have HJ := Lib.hid hj
        clear hj
        by_cases hlt : k < xs.length
        · have hlt2 : k < ys.length := by have := HQ.out; omega
          have k2 : (k : Int) < ys.length := by omega
          have g1 := hx.cell k hlt
          have g2 := hy.cell k hlt2
          by_cases hp : nth xs k = nth ys k
          · have HP := Lib.hid hp
            rw [hp] at g1
            clear hp
            go_wp2
            go_quiet (fail)
            go_wp2
            go_roundw
            case rel => exact ⟨k + 1, _, by omega, by go_num, rfl, upto HJ.out HP.out⟩
            case measure => simp [intOf]; omega
          · go_wp2
            go_quiet (fail)
            go_wp2
            go_ret
            exact ⟨ret_bool (eqI_false hp).symm, _, by rw [World.drewN_drewN]⟩
        · go_wp2
          go_ret
          have e : k = xs.length := by omega
          exact ⟨ret_bool (eqI_true HQ.out (e ▸ HJ.out)).symm, n, rfl⟩
  · have hq : ¬ xs.length = ys.length := by simp at hl; omega
    have HQ := Lib.hid hq
    clear hq
    go_enter Try.func114, Try.ntmps114
    go_wp2
    go_ret
    exact ⟨ret_bool (eqI_len HQ.out).symm, 0, rfl⟩
set_option maxHeartbeats 400000 in
theorem slicesEqualI_c (S T : Nat → Prop) (a b : Option Addr) (c c' : Nat) (xs ys : List Int) (w : World) (hx : SlI S w a xs) (hy : SlI T w b ys) :
    Calls Try.prog 69 #[.slice a xs.length c, .slice b ys.length c'] w (RetQ w (.bool (eqI xs ys))) := by
  have l1 := hx.len
  have l2 := hy.len
  unfold maxLen at l1 l2
  cases hl : ((xs.length : Int) != ys.length)
  · have hq : xs.length = ys.length := by simp at hl; omega
    have HQ := Lib.hid hq
    clear hq
    have i1 := hx.ix tabI.under tabI.size c
    have i2 := hy.ix tabI.under tabI.size c'
    go_enter Try.func69, Try.ntmps69
    go_wp2
    go_loopw [5, 13] (fun _ i wr => ∃ k n : Nat, k ≤ xs.length ∧ i = .int .i64 k ∧ wr = w.drewN n ∧ (∀ j, j < k → nth xs j = nth ys j)) (fun _ i _ => xs.length - (intOf i).toNat)
    case atStart => exact ⟨0, 0, Nat.zero_le _, rfl, rfl, by omega⟩
    case round =>
        obtain ⟨k, n, hk, rfl, rfl, hj⟩ := hrel
        have HJ := Lib.hid hj
        clear hj
        by_cases hlt : k < xs.length
        · have hlt2 : k < ys.length := by have := HQ.out; omega
          have k2 : (k : Int) < ys.length := by omega
          have g1 := hx.cell k hlt
          have g2 := hy.cell k hlt2
          by_cases hp : nth xs k = nth ys k
          · have HP := Lib.hid hp
            rw [hp] at g1
            clear hp
            go_wp2
            go_quiet (fail)
            go_wp2
            go_roundw
            case rel => exact ⟨k + 1, _, by omega, by go_num, rfl, upto HJ.out HP.out⟩
            case measure => simp [intOf]; omega
          · go_wp2
            go_quiet (fail)
            go_wp2
            go_ret
            exact ⟨ret_bool (eqI_false hp).symm, _, by rw [World.drewN_drewN]⟩
        · go_wp2
          go_ret
          have e : k = xs.length := by omega
          exact ⟨ret_bool (eqI_true HQ.out (e ▸ HJ.out)).symm, n, rfl⟩
  · have hq : ¬ xs.length = ys.length := by simp at hl; omega
    have HQ := Lib.hid hq
    clear hq
    go_enter Try.func69, Try.ntmps69
    go_wp2
    go_ret
    exact ⟨ret_bool (eqI_len HQ.out).symm, 0, rfl⟩
set_option maxHeartbeats 800000 in
theorem eqInt64SS_c (S T : Nat → Prop) (a b : Option Addr) (c c' : Nat) (xs : List (List Int)) (w : World) (hx : SlII S w a xs) (hy : SlII T w b xs) :
    Calls Try.prog 37 #[.slice a xs.length c, .slice b xs.length c'] w (RetQ w (.bool true)) := by
  have l1 := hx.len
  unfold maxLen at l1
  have i1 := hx.ix tabII.under tabII.size c
  have i2 := hy.ix tabII.under tabII.size c'
  go_enter Try.func37, Try.ntmps37
  go_wp2
  go_loopw [5] (fun i wr => ∃ k n : Nat, k ≤ xs.length ∧ i = .int .i64 k ∧ wr = w.drewN n) (fun i _ => xs.length - (intOf i).toNat)
  case atStart => exact ⟨0, 0, Nat.zero_le _, rfl, rfl⟩
  case round =>
      obtain ⟨k, n, hk, rfl, rfl⟩ := hrel
      by_cases hlt : k < xs.length
      · obtain ⟨a1, c1, g1, h1⟩ := hx.cell k hlt
        obtain ⟨a2, c2, g2, h2⟩ := hy.cell k hlt
        have HC := Lib.hid fun m => eqInt64S_c S T a1 a2 c1 c2 _ _ (h1.below (below_drewN _ w m)) (h2.below (below_drewN _ w m))
        clear h1 h2
        go_wp2
        go_quiet (with_reducible exact stillQ2 (HC.out _))
        go_wp2
        go_roundw
        case rel => exact ⟨k + 1, _, by omega, by go_num, rfl⟩
        case measure => simp [intOf]; omega
      · go_wp2
        go_ret
        exact ⟨rfl, n, rfl⟩
/-- What is left when lists have been weighed, one by one; -1 if it isn't enough. -/
def szNext (left : Int) (xs : List Int) : Int := if left < xs.length then -1 else left - xs.length
def szII (left : Int) (xs : List (List Int)) : Int := if left < xs.length then -1 else (xs.foldl (fun l r => if l < 0 then l else szNext l r) (left - xs.length))
end Go.Proofs.Ytncndnholheemaa
