/- The frame of a law's statement over a row that lists variables, the world's shape handed on too. -/
import Derived.Test.YtbnikblhnibgiaaGreatDoorZ10
import Derived.HandedShaped
import Derived.Lay
import Derived.Test.YtbnikblhnibgiaaGreatDoorZ9
import Derived.Shelf.Vars
import Derived.Stop.LaidErr
import Derived.Test.YtbnikblhnibgiaaGreatDoorZ1
import Derived.Test.YtbnikblhnibgiaaGreatDoorZ3
import Derived.Test.YtbnikblhnibgiaaGreatDoorZ2
namespace Go.Proofs.YtbnikblhnibgiaaGreatDoor
open Go.ChangeShapes Go.WideShapes Go.ChangeAt Go.RowKit

theorem handed_both {H : Type} {enc : TypeId × Value → H} {a : Assume} {C : Checked} {os : Os} {f : FuncId} {fn : Func} {s : ChangeSpec} {conds : List PathCond} {apart fresh handsOn again : Bool} {X : World → Array Value → Prop}
    (hX : ∀ (w w' : World) (args : Array Value), w.heap = w'.heap → X w args → X w' args)
    (own : ownKnob C.prog.godebug = none) (started : os.Started) (noInit : C.prog.inits.idxOf? f = none) (hfn : C.prog.funcs[f]? = some fn)
    (witness : ∃ (w : World) (tape : Tape) (i : Input), w.os = os ∧ (w.forCall tape i).Shaped C.prog ∧ i.vars = [] ∧ Input.okWide C.prog (w.forCall tape i) .any w.heap.size f i ∧
      ((s.pre enc C.prog fn conds apart (w.forCall tape i).memory i.args ∧ X (w.forCall tape i).memory i.args) ∧ sizedMet enc C.prog fn (OpenSpec.ofChange s) apart (w.forCall tape i).memory i.args) ∧ a.holds C.prog (lone (Frame.enter C.prog f i.args .normal) [] (w.forCall tape i)))
    (contract : ∀ (W : World) (base : Nat) (args : Array Value) (ds gs : List (DataW H)) (before : List MemPlace),
      (∀ (j : Nat) t v, fn.params[j]? = some t → args[j]? = some v → Value.okWide C.prog W .any base t v) →
      DataW.Whole enc C.prog fn.params.toList s.vars apart W args.toList ds gs before → X W args → W.ShapedOpen C.prog →
      Calls C.prog f args W fun e W' => ∃ v, e = .returned v ∧ s.post enc C.prog fn apart fresh handsOn again W args v W') :
    ReturnsInHanded a C os f .any (fun w args => (s.pre enc C.prog fn conds apart w args ∧ X w args) ∧ sizedMet enc C.prog fn (OpenSpec.ofChange s) apart w args) (s.post enc C.prog fn apart fresh handsOn again) := by
  refine returnsInHanded_of_calls own started noInit witness ?_
  intro w tape i _ hsh _ hok hpre hholds
  obtain ⟨_, _, _, fn', hfn', _, _, _, _, hval⟩ := hok
  have e : fn' = fn := Option.some.inj (hfn'.symm.trans hfn)
  subst e
  obtain ⟨⟨⟨ds, gs, before, hw, hc⟩, hx⟩, hz⟩ := hpre
  have hw' := DataW.Whole.of_heap (w' := w.forCall tape i) (by rfl) hw
  refine (contract (w.forCall tape i) w.heap.size i.args ds gs before hval hw' (hX _ _ _ (by rfl) hx) hsh).mono fun e W' ⟨v, he, hp⟩ => ?_
  subst he
  exact ChangeSpec.post_blind hp
set_option maxRecDepth 100000 in
theorem liftShaped {F : FuncId} {fn : Func} {s : ChangeSpec} {tb : TypeId} {lst : List (String × DataW Unit)} (hfn : Tryz.checked.prog.funcs[F]? = some fn) (noInit : Tryz.checked.prog.inits.idxOf? F = none)
    (hv : s.vars = []) (hres : fn.resultTypes = #[tb]) (htb : Tryz.prog.underlying tb = some .bool)
    (hrd : fn.params.toList.all (fun t => Tryz.prog.readableRec t && decide (t < Tryz.prog.types.size)) = true)
    {H : Type} {enc : TypeId × Value → H} (hs : ∀ ds, ds.length = fn.params.toList.length → s.fn H (ds ++ []) = { results := [.lit (.bool true)], args := ds })
    {os : Os} (started : os.Started)
    (witness : ∃ (w : World) (tape : Tape) (i : Input), w.os = os ∧ (w.forCall tape i).Shaped Tryz.checked.prog ∧ i.vars = [] ∧ Input.okWide Tryz.checked.prog (w.forCall tape i) .any w.heap.size F i ∧
      ((s.pre enc Tryz.checked.prog fn [] false (w.forCall tape i).memory i.args ∧ laidMetH Tryz.checked.prog lst (w.forCall tape i).memory) ∧ sizedMet enc Tryz.checked.prog fn (OpenSpec.ofChange s) false (w.forCall tape i).memory i.args) ∧ ({} : Assume).holds Tryz.checked.prog (lone (Frame.enter Tryz.checked.prog F i.args .normal) [] (w.forCall tape i)))
    (walk : ∀ (W : World) (base : Nat) (args : Array Value) (ds : List (DataW H)) (p : List MemPlace), (∀ (j : Nat) t v, fn.params[j]? = some t → args[j]? = some v → Value.okWide Tryz.prog W .any base t v) → DataW.TrodAll enc Tryz.prog W 0 (fun _ => true) true fn.params.toList args.toList ds p → laidMetH Tryz.prog lst W → W.ShapedOpen Tryz.prog →
      Calls Tryz.prog F args W fun e w' => e = .returned (.bool true) ∧ Below W.heap.size W w') :
    ReturnsInHanded {} Tryz.checked os F .any (fun w args => (s.pre enc Tryz.prog fn [] false w args ∧ laidMetH Tryz.prog lst w) ∧ sizedMet enc Tryz.prog fn (OpenSpec.ofChange s) false w args) (s.post enc Tryz.prog fn false true false false) := by
  refine handed_both (C := Tryz.checked) (X := fun w _ => laidMetH Tryz.prog lst w) (fun _ _ _ hh h => h.of_heap hh) own started noInit hfn witness ?_
  intro W base args ds gs before hval0 hW hL hSh
  have hW' := hW
  obtain ⟨p, q, hA, hV, hp, hfz, hnd⟩ := hW
  rw [hv] at hV
  obtain ⟨rfl, rfl⟩ := trodVars_none hV
  rw [List.append_nil] at hp
  subst hp
  have hval : ∀ (j : Nat) t v, fn.params[j]? = some t → args[j]? = some v → Value.okWide Tryz.prog W .any base t v := hval0
  refine (walk W base args ds _ hval hA hL hSh).mono fun e W' ⟨he, hb⟩ => ?_
  subst he
  have hlen : ∀ (ts : List TypeId) (vs : List Value) (ds : List (DataW H)) (ps : List MemPlace), DataW.TrodAll enc Tryz.prog W 0 (fun _ => true) true ts vs ds ps → ds.length = ts.length := by
    intro ts
    induction ts with
    | nil => intro vs ds ps h; obtain ⟨_, rfl, _⟩ := trodAll_nil h; rfl
    | cons t ts ih => intro vs ds ps h; obtain ⟨_, _, _, _, _, _, rfl, rfl, rfl, _, h2⟩ := trodAll_cons h; simp [ih _ _ _ h2]
  have e1 := hs ds (hlen _ _ _ _ hA)
  refine ⟨_, rfl, ds, [], before, [], before, [], hW', ?_, ?_, ?_, hb.frame _, fun h => by cases h⟩
  · rw [e1, hres]; exact trodAll_mk1 (shut_bool htb true)
  · rw [e1]; exact trodAll_below laidOut hb _ _ _ _ hrd hA (fun x hx => by simpa using hW'.lt x hx)
  · rw [e1, hv]; rfl
end Go.Proofs.YtbnikblhnibgiaaGreatDoor

/- What the library needs, out of what the row lists and the world's shape. -/
namespace Go.Proofs.YtbnikblhnibgiaaGreatDoor
open Go.RowKit
theorem starErr : "*" ++ "errors.errorString" = "*errors.errorString" := by decide
theorem rowErr (u : TypeId) (h : Tryz.prog.typeName? 3 u = some "*errors.errorString") : u = 145 :=
  typeName_ptr_named (nm := "errors.errorString") (by rw [starErr]; kernel_rfl) (by kernel_rfl) (by decide) u (by rw [starErr]; exact h)
theorem lib_ofL {W : World} {r : List (String × DataW Unit)} {d32 d64 acc : DataW Unit} {t1 t2 : List UInt8}
    (h : laidMet Tryz.prog (("math/bits.deBruijn32tab", d32) :: ("math/bits.deBruijn64tab", d64) :: ("internal/strconv.uint64pow10", Lib.tabData .u64 Lib.pow10Tab) :: ("unicode/utf8.acceptRanges", acc) ::
      ("strconv.ErrRange", .iface "*errors.errorString" (.ptr (.agg [.lit (.string t1)]))) :: ("strconv.ErrSyntax", .iface "*errors.errorString" (.ptr (.agg [.lit (.string t2)]))) :: r) W) (hs : W.ShapedOpen Tryz.prog) : LibOk W := by
  have h5 := h.tail.tail.tail.tail
  obtain ⟨a1, s1, hv1, _⟩ := laid_sentinel (g := 1) h5 (by kernel_rfl) (by kernel_rfl) Tryz.underlying60 rowErr Tryz.underlying145 Tryz.underlying147 rfl rfl Tryz.underlying9 (by kernel_rfl) (by kernel_rfl)
  obtain ⟨a2, s2, hv2, _⟩ := laid_sentinel (g := 0) h5.tail (by kernel_rfl) (by kernel_rfl) Tryz.underlying60 rowErr Tryz.underlying145 Tryz.underlying147 rfl rfl Tryz.underlying9 (by kernel_rfl) (by kernel_rfl)
  refine ⟨Tryz.laysM146.s1_3 W hs, ⟨_, (World.var?_cell (by kernel_rfl) hv2 0).trans rfl, .inr ⟨_, _, rfl⟩⟩, ⟨_, (World.var?_cell (by kernel_rfl) hv1 0).trans rfl, .inr ⟨_, _, rfl⟩⟩, ?_⟩
  exact Lib.tabIs_of_head (g := 3) (t := 150) (e := 82) (n := 20) (by kernel_rfl) (by kernel_rfl) Tryz.underlying150 Tryz.underlying82 (by kernel_rfl) (by kernel_rfl) h.tail.tail
/- For its row (3). -/
theorem lib_ofPrograms {W : World} (h : laidMetH Tryz.prog Rows.fnProgramsRow.laid W) (hs : W.ShapedOpen Tryz.prog) : LibOk W := by
  rw [MakeChecks.laidMetH_plain _ _ _ (by kernel_rfl)] at h
  change laidMet Tryz.prog (_ :: _ :: ("internal/strconv.uint64pow10", DataW.agg _) :: _) W at h
  rw [pow_eq] at h
  exact lib_ofL h hs
end Go.Proofs.YtbnikblhnibgiaaGreatDoor

/- Contracts of the functions that compare and copy programs. -/
namespace Go.Proofs.YtbnikblhnibgiaaGreatDoor
open Go.RowKit

set_option maxHeartbeats 1000000 in
theorem specSameProgram_c (R Q : Int) (S : Nat → Prop) (a b : Option Addr) (c c' : Nat) (xs ys : List Ord) (w : World) (hx0 : SlO S w a xs) (hy0 : SlO S w b ys) :
    Calls Tryz.prog 11 #[.agg #[.int .i64 R, .slice a xs.length c], .agg #[.int .i64 Q, .slice b ys.length c']] w (RetV w (.bool (samePS R xs Q ys))) := by
  have hb : Below w.heap.size w ((w.alloc (.cells #[.int .i64 R, .slice a xs.length c] 26)).alloc (.cells #[.int .i64 Q, .slice b ys.length c'] 26)) := ((Below.refl _ _).alloc (Nat.le_refl _) _).alloc (by simp) _
  have hx := hx0.below hb
  have hy := hy0.below hb
  have HB := Lib.hid hb
  have l1 := hx.len
  have l2 := hy.len
  unfold maxLen at l1 l2
  clear hb hx0 hy0
  cases h : (R != Q)
  · have hRQ : (R == Q) = true := by simpa using h
    have e : samePS R xs Q ys = eqOS xs ys := by simp [samePS, hRQ]
    rw [e]; clear e hRQ
    cases hl : ((xs.length : Int) != ys.length)
    · have hq : xs.length = ys.length := by simp at hl; omega
      have HQ := Lib.hid hq
      clear hq
      have i1 := ixO hx c
      have i2 := ixO hy c'
      go_enter Tryz.func11, Tryz.ntmps11
      go_wp2
      go_loopw [5] (fun i wr => ∃ k n : Nat, k ≤ xs.length ∧ i = .int .i64 k ∧ wr = ((w.alloc (.cells #[.int .i64 R, .slice a xs.length c] 26)).alloc (.cells #[.int .i64 Q, .slice b ys.length c'] 26)).drewN n ∧ (∀ j, j < k → ordB (nthO xs j) (nthO ys j) = true)) (fun i _ => xs.length - (intOf i).toNat)
      case atStart => exact ⟨0, 0, Nat.zero_le _, rfl, rfl, by omega⟩
      case round =>
        obtain ⟨k, n, hk, rfl, rfl, hj⟩ := hrel
        have HJ := Lib.hid hj
        clear hj
        by_cases hlt : k < xs.length
        · have hlt2 : k < ys.length := by have := HQ.out; omega
          have k2 : (k : Int) < ys.length := by omega
          have g0 := hx.c0 k hlt
          have g1 := hx.c1 k hlt
          have g2 := hx.c2 k hlt
          have g3 := hx.c3 k hlt
          have f0 := hy.c0 k hlt2
          have f1 := hy.c1 k hlt2
          have f2 := hy.c2 k hlt2
          have f3 := hy.c3 k hlt2
          cases hp : ordB (nthO xs k) (nthO ys k)
          · have HP := Lib.hid hp
            have hd : (¬ (nthO xs k).op = (nthO ys k).op) ∨ ((nthO xs k).op = (nthO ys k).op ∧ ¬ (nthO xs k).reg = (nthO ys k).reg) ∨ ((nthO xs k).op = (nthO ys k).op ∧ (nthO xs k).reg = (nthO ys k).reg ∧ ¬ (nthO xs k).to = (nthO ys k).to) ∨ ((nthO xs k).op = (nthO ys k).op ∧ (nthO xs k).reg = (nthO ys k).reg ∧ (nthO xs k).to = (nthO ys k).to ∧ ¬ (nthO xs k).els = (nthO ys k).els) := by
              by_cases a0 : (nthO xs k).op = (nthO ys k).op <;> by_cases a1 : (nthO xs k).reg = (nthO ys k).reg <;> by_cases a2 : (nthO xs k).to = (nthO ys k).to <;> by_cases a3 : (nthO xs k).els = (nthO ys k).els <;> simp_all [ordB]
            clear hp
            rcases hd with a0 | ⟨a0, a1⟩ | ⟨a0, a1, a2⟩ | ⟨a0, a1, a2, a3⟩
            all_goals
              go_wp2
              go_quiet (fail)
              go_wp2
              go_ret
              exact ⟨ret_bool (eqOS_false hlt HP.out).symm, HB.out.trans ((below_drewN _ _ _).trans (below_drewN _ _ _))⟩
          · have HP := Lib.hid hp
            have hd : (nthO xs k).op = (nthO ys k).op ∧ (nthO xs k).reg = (nthO ys k).reg ∧ (nthO xs k).to = (nthO ys k).to ∧ (nthO xs k).els = (nthO ys k).els := by simpa [ordB, and_assoc] using hp
            obtain ⟨a0, a1, a2, a3⟩ := hd
            clear hp
            rw [a0] at g0
            rw [a1] at g1
            rw [a2] at g2
            rw [a3] at g3
            clear a0 a1 a2 a3
            go_wp2
            go_quiet (fail)
            go_wp2
            go_roundw
            case rel => exact ⟨k + 1, _, by omega, by go_num, rfl, upto HJ.out HP.out⟩
            case measure => simp [intOf]; omega
        · go_wp2
          go_ret
          have e : k = xs.length := by omega
          exact ⟨ret_bool (eqOS_true HQ.out (e ▸ HJ.out)).symm, HB.out.trans (below_drewN _ _ _)⟩
    · have hq : ¬ xs.length = ys.length := by simp at hl; omega
      have HQ := Lib.hid hq
      clear hq
      go_enter Tryz.func11, Tryz.ntmps11
      go_wp2
      go_ret
      exact ⟨ret_bool (eqOS_len HQ.out).symm, HB.out⟩
  · have hRQ : (R == Q) = false := by simpa using h
    have e : samePS R xs Q ys = false := by simp [samePS, hRQ]
    rw [e]; clear e hRQ
    go_enter Tryz.func11, Tryz.ntmps11
    go_wp2
    go_ret
    exact ⟨rfl, HB.out⟩
end Go.Proofs.YtbnikblhnibgiaaGreatDoor

/- Valid stocks. -/
namespace Go.Proofs.YtbnikblhnibgiaaGreatDoor
open Go.RowKit

theorem okPass_ok {x0 : Int} {x1 : List Int} {x2 : List Bool} {x3 : List PR} (h : okPass x0 x1 x2 x3 = true) : 1 ≤ x0 ∧ x0 ≤ 8 ∧ 1 ≤ x1.length ∧ x1.length ≤ 4 ∧ nth x1 0 = -1 ∧ (x2.length : Int) = x0 ∧ x3.length ≤ 8 := by
  simp only [okPass, Bool.and_eq_true] at h
  exact passHead_ok h.1.1
def okStockAll (x0 : Int) (x1 : List Int) (x2 : List Bool) (x3 : List PR) (y0 : List (List Int)) (y1 : List Int) : Bool := okPass x0 x1 x2 x3 && okStock x0 x1.length x2 y0 y1
end Go.Proofs.YtbnikblhnibgiaaGreatDoor

/- What rules take from the places of a passing system: plain lists and numbers. No program is in sight. -/
namespace Go.Proofs.YtbnikblhnibgiaaGreatDoor
open Go.RowKit

/-- The place of the parent of a cell; behind the cells come the surroundings. -/
def upS (x1 : List Int) (c : Int) : Int := if c = 0 then x1.length else nth x1 c.toNat
/-- The objects of a list that are not free. -/
def boundS (free : List Bool) (xs : List Int) : List Int := (List.range xs.length).map fun k => if nthB free k = true then 0 else nth xs k
theorem boundS_len (free : List Bool) (xs : List Int) : (boundS free xs).length = xs.length := by simp [boundS]
theorem boundS_at {free : List Bool} {xs : List Int} {k : Nat} (h : k < xs.length) : nth (boundS free xs) k = if nthB free k = true then 0 else nth xs k := by
  simp [boundS, nth, h]
def cellN (r : PR) : Nat := r.cell.toNat
def upN (x1 : List Int) (r : PR) : Nat := (upS x1 r.cell).toNat
def innS (x2 : List Bool) (r : PR) : List Int := if r.cell = 0 then boundS x2 r.inn else r.inn
theorem innS_len (x2 : List Bool) (r : PR) : (innS x2 r).length = r.inn.length := by unfold innS; split <;> simp [boundS_len]
/-- A valid passing system, laid open. -/
structure PsOk (K : Nat) (x1 : List Int) (x2 : List Bool) (x3 : List PR) : Prop where
  k1 : 1 ≤ K
  k8 : K ≤ 8
  p1 : 1 ≤ x1.length
  p4 : x1.length ≤ 4
  par0 : nth x1 0 = -1
  free : x2.length = K
  r8 : x3.length ≤ 8
  par : ∀ c, 0 < c → c < x1.length → 0 ≤ nth x1 c ∧ nth x1 c < c
  cell : ∀ i, i < x3.length → 0 ≤ (nthPR x3 i).cell ∧ (nthPR x3 i).cell < x1.length
  out : ∀ i, i < x3.length → isBagS (nthPR x3 i).out = true ∧ (nthPR x3 i).out.length = K
  inn : ∀ i, i < x3.length → isBagS (nthPR x3 i).inn = true ∧ (nthPR x3 i).inn.length = K
  some : ∀ i, i < x3.length → ¬ sumS (nthPR x3 i).out + sumS (nthPR x3 i).inn = 0
  own : ∀ i, i < x3.length → 0 < (nthPR x3 i).cell ∨ 0 < sumS (nthPR x3 i).out ∨ hasBoundS x2 (nthPR x3 i).inn = true
theorem PsOk.of {x0 : Int} {x1 : List Int} {x2 : List Bool} {x3 : List PR} (h : okPass x0 x1 x2 x3 = true) : ∃ K : Nat, x0 = K ∧ PsOk K x1 x2 x3 := by
  simp only [okPass, Bool.and_eq_true] at h
  obtain ⟨⟨h1, h2⟩, h3⟩ := h
  obtain ⟨a1, a2, a3, a4, a5, a6, a7⟩ := passHead_ok h1
  refine ⟨x0.toNat, by omega, by omega, by omega, a3, a4, a5, by omega, a7, fun c c0 c1 => ?_, fun i hi => ?_, fun i hi => ?_, fun i hi => ?_, fun i hi => ?_, fun i hi => ?_⟩
  · have := parsOk_at h2 (k := c - 1) (by omega)
    simp only [parOk, inRg, Bool.and_eq_true, decide_eq_true_eq] at this
    rw [show c - 1 + 1 = c by omega] at this
    omega
  all_goals
    have hr := allPR_at h3 hi
    simp only [ruleOk, Bool.and_eq_true, Bool.or_eq_true, decide_eq_true_eq, inRg, Bool.not_eq_true', beq_eq_false_iff_ne, ne_eq] at hr
    obtain ⟨⟨⟨⟨⟨r1, r2⟩, r3⟩, r4⟩, r5⟩, r6⟩ := hr
  · omega
  · have := validBagS_ok r3; exact ⟨this.1, by omega⟩
  · have := validBagS_ok r4; exact ⟨this.1, by omega⟩
  · exact r5
  · rcases r6 with (r6 | r6) | r6
    · exact .inl r6
    · exact .inr (.inl r6)
    · exact .inr (.inr r6)
/-- A valid stock, laid open. -/
structure StOk (K n : Nat) (y0 : List (List Int)) (y1 : List Int) : Prop where
  len : y0.length = n
  bag : ∀ i, i < n → isBagS (nthR y0 i) = true ∧ (nthR y0 i).length = K
  around : isBagS y1 = true ∧ y1.length = K
theorem StOk.of {K : Nat} {n : Nat} {x2 : List Bool} {y0 : List (List Int)} {y1 : List Int} (h : okStock K n x2 y0 y1 = true) : StOk K n y0 y1 := by
  simp only [okStock, Bool.and_eq_true, decide_eq_true_eq] at h
  obtain ⟨⟨⟨h1, h2⟩, _⟩, h3⟩ := h
  refine ⟨h1, fun i hi => ?_, ?_⟩
  · have := validBagS_ok (allII_at h3 (k := i) (by omega)); exact ⟨this.1, by omega⟩
  · have := validBagS_ok h2; exact ⟨this.1, by omega⟩
theorem stockAll_ok {x0 : Int} {x1 : List Int} {x2 : List Bool} {x3 : List PR} {y0 : List (List Int)} {y1 : List Int} (h : okStockAll x0 x1 x2 x3 y0 y1 = true) : ∃ K : Nat, x0 = K ∧ PsOk K x1 x2 x3 ∧ StOk K x1.length y0 y1 := by
  simp only [okStockAll, Bool.and_eq_true] at h
  obtain ⟨K, rfl, hp⟩ := PsOk.of h.1
  exact ⟨K, rfl, hp, StOk.of h.2⟩
theorem PsOk.upN {K : Nat} {x1 : List Int} {x2 : List Bool} {x3 : List PR} (h : PsOk K x1 x2 x3) {i : Nat} (hi : i < x3.length) :
    cellN (nthPR x3 i) < x1.length ∧ upN x1 (nthPR x3 i) ≤ x1.length ∧ upN x1 (nthPR x3 i) ≠ cellN (nthPR x3 i) ∧ (upS x1 (nthPR x3 i).cell = (upN x1 (nthPR x3 i) : Int)) ∧ ((nthPR x3 i).cell = (cellN (nthPR x3 i) : Int)) ∧ ((nthPR x3 i).cell = 0 ↔ upN x1 (nthPR x3 i) = x1.length) := by
  have hc := h.cell i hi
  have hp := h.par (nthPR x3 i).cell.toNat
  unfold cellN Go.Proofs.YtbnikblhnibgiaaGreatDoor.upN upS
  by_cases e : (nthPR x3 i).cell = 0
  · have := h.p1
    rw [if_pos e, Int.toNat_natCast]
    refine ⟨by omega, Nat.le_refl _, by omega, rfl, by omega, ⟨fun _ => rfl, fun _ => e⟩⟩
  · rw [if_neg e]
    have := hp (by omega) (by omega)
    omega
/-- What a rule takes of kind k at a place. -/
def needs (x1 : List Int) (x2 : List Bool) (r : PR) (pl k : Nat) : Int := (if pl = cellN r then nth r.out k else 0) + (if pl = upN x1 r then nth (innS x2 r) k else 0)
/-- What is left of kind k at a place behind the first i counts. -/
def lev (x1 : List Int) (x2 : List Bool) (x3 : List PR) (bags : List (List Int)) (cs : List Int) : Nat → Nat → Nat → Int
  | 0, pl, k => nth (nthR bags pl) k
  | i + 1, pl, k => lev x1 x2 x3 bags cs i pl k - nth cs i * needs x1 x2 (nthPR x3 i) pl k
theorem innS_bd {K : Nat} {x1 : List Int} {x2 : List Bool} {x3 : List PR} (h : PsOk K x1 x2 x3) {i : Nat} (hi : i < x3.length) {k : Nat} (hk : k < K) : 0 ≤ nth (innS x2 (nthPR x3 i)) k ∧ nth (innS x2 (nthPR x3 i)) k ≤ 1000 := by
  have hn := h.inn i hi
  have hb := isBagS_at hn.1 (k := k) (by omega)
  unfold innS
  split
  · rw [boundS_at (by omega)]
    split <;> omega
  · exact hb
theorem out_bd {K : Nat} {x1 : List Int} {x2 : List Bool} {x3 : List PR} (h : PsOk K x1 x2 x3) {i : Nat} (hi : i < x3.length) {k : Nat} (hk : k < K) : 0 ≤ nth (nthPR x3 i).out k ∧ nth (nthPR x3 i).out k ≤ 1000 :=
  isBagS_at (h.out i hi).1 (by have := (h.out i hi).2; omega)
theorem inn_bd {K : Nat} {x1 : List Int} {x2 : List Bool} {x3 : List PR} (h : PsOk K x1 x2 x3) {i : Nat} (hi : i < x3.length) {k : Nat} (hk : k < K) : 0 ≤ nth (nthPR x3 i).inn k ∧ nth (nthPR x3 i).inn k ≤ 1000 :=
  isBagS_at (h.inn i hi).1 (by have := (h.inn i hi).2; omega)
theorem needs_bd {K : Nat} {x1 : List Int} {x2 : List Bool} {x3 : List PR} (h : PsOk K x1 x2 x3) {i : Nat} (hi : i < x3.length) (pl : Nat) {k : Nat} (hk : k < K) : 0 ≤ needs x1 x2 (nthPR x3 i) pl k ∧ needs x1 x2 (nthPR x3 i) pl k ≤ 2000 := by
  have h1 := out_bd h hi hk
  have h2 := innS_bd h hi hk
  unfold needs
  split <;> split <;> omega
/-- Numbers from 0 to 1001. -/
def cntBd (cs : List Int) : Prop := ∀ j, 0 ≤ nth cs j ∧ nth cs j ≤ 1001
theorem mul_bd {a b A B : Int} (h1 : 0 ≤ a ∧ a ≤ A) (h2 : 0 ≤ b ∧ b ≤ B) : 0 ≤ a * b ∧ a * b ≤ A * B :=
  ⟨Int.mul_nonneg h1.1 h2.1, Int.mul_le_mul h1.2 h2.2 h2.1 (by omega)⟩
theorem lev_mono {K : Nat} {x1 : List Int} {x2 : List Bool} {x3 : List PR} {bags : List (List Int)} {cs : List Int} (h : PsOk K x1 x2 x3) (hc : cntBd cs) (pl : Nat) {k : Nat} (hk : k < K) :
    ∀ (i d : Nat), i + d ≤ x3.length → lev x1 x2 x3 bags cs (i + d) pl k ≤ lev x1 x2 x3 bags cs i pl k
  | i, 0, _ => Int.le_refl _
  | i, d + 1, hd => by
    have ih := lev_mono h hc pl hk (bags := bags) i d (by omega)
    have hm := mul_bd (hc (i + d)) (needs_bd h (i := i + d) (by omega) pl hk)
    rw [← Nat.add_assoc, lev]; omega
theorem lev_bd {K : Nat} {x1 : List Int} {x2 : List Bool} {x3 : List PR} {bags : List (List Int)} {cs : List Int} (h : PsOk K x1 x2 x3) (hc : cntBd cs) (pl : Nat) {k : Nat} (hk : k < K) (h0 : 0 ≤ nth (nthR bags pl) k ∧ nth (nthR bags pl) k ≤ 1000) :
    ∀ i, i ≤ x3.length → -(2002000 * (i : Int)) ≤ lev x1 x2 x3 bags cs i pl k ∧ lev x1 x2 x3 bags cs i pl k ≤ 1000
  | 0, _ => by simp [lev]; omega
  | i + 1, hi => by
    have ih := lev_bd h hc pl hk h0 i (by omega)
    have hm := mul_bd (hc i) (needs_bd h (i := i) (by omega) pl hk)
    rw [lev]; omega
/-- The bags of all places, the surroundings last. -/
def bagsS (y0 : List (List Int)) (y1 : List Int) : List (List Int) := y0 ++ [y1]
theorem bagsS_len (y0 : List (List Int)) (y1 : List Int) : (bagsS y0 y1).length = y0.length + 1 := by simp [bagsS]
theorem bagsS_ok {K n : Nat} {y0 : List (List Int)} {y1 : List Int} (h : StOk K n y0 y1) {pl : Nat} (hp : pl ≤ n) : isBagS (nthR (bagsS y0 y1) pl) = true ∧ (nthR (bagsS y0 y1) pl).length = K := by
  have hl := h.len
  by_cases e : pl < n
  · have := h.bag pl e
    rw [nthR_lt (by omega)] at this
    rw [nthR_lt (by rw [bagsS_len]; omega)]
    simp only [bagsS]
    rw [List.getElem_append_left (by omega)]; exact this
  · have e2 : pl = y0.length := by omega
    subst e2
    have := h.around
    rw [nthR_lt (by rw [bagsS_len]; omega)]
    simpa [bagsS] using this
theorem bagsS_at {K n : Nat} {y0 : List (List Int)} {y1 : List Int} (h : StOk K n y0 y1) {pl k : Nat} (hp : pl ≤ n) (hk : k < K) : 0 ≤ nth (nthR (bagsS y0 y1) pl) k ∧ nth (nthR (bagsS y0 y1) pl) k ≤ 1000 := by
  have := bagsS_ok h hp
  exact isBagS_at this.1 (by omega)
/-- No place lacks anything. -/
def allGe (n K : Nat) (f : Nat → Nat → Int) : Prop := ∀ pl k, pl ≤ n → k < K → 0 ≤ f pl k

/-! The program's: bag by bag. -/
def takeB (x1 : List Int) (x2 : List Bool) (r : PR) (n : Int) (bags : List (List Int)) : List (List Int) :=
  (bags.set (cellN r) (plusS (nthR bags (cellN r)) r.out (-n))).set (upN x1 r) (plusS (nthR (bags.set (cellN r) (plusS (nthR bags (cellN r)) r.out (-n))) (upN x1 r)) (innS x2 r) (-n))
def takeTo (x1 : List Int) (x2 : List Bool) (x3 : List PR) (cs : List Int) (bags : List (List Int)) : Nat → List (List Int)
  | 0 => bags
  | i + 1 => takeB x1 x2 (nthPR x3 i) (nth cs i) (takeTo x1 x2 x3 cs bags i)
theorem nthR_set {xss : List (List Int)} {i j : Nat} {v : List Int} (h : i < xss.length) : nthR (xss.set i v) j = if j = i then v else nthR xss j := by
  by_cases e : j = i
  · subst e; simp [nthR, h]
  · simp [nthR, Ne.symm e, e]
theorem plusS_nth {xs ys : List Int} {f : Int} {k : Nat} (h : k < xs.length) : nth (plusS xs ys f) k = addW f (nth xs k) (nth ys k) := zipF_at h
theorem addW_neg {n x y : Int} (h : 0 ≤ n ∧ n ≤ 1001) (hy : 0 ≤ y ∧ y ≤ 1000) (hx : -100000000 ≤ x ∧ x ≤ 100000000) : addW (-n) x y = x - n * y := by
  have hm := mul_bd h hy
  have e : -n * y = -(n * y) := Int.neg_mul _ _
  unfold addW wrap64
  rw [e]
  omega
theorem takeB_at {K : Nat} {x1 : List Int} {x2 : List Bool} {x3 : List PR} (h : PsOk K x1 x2 x3) {i : Nat} (hi : i < x3.length) {n : Int} (hn : 0 ≤ n ∧ n ≤ 1001) {bags : List (List Int)} (hl : bags.length = x1.length + 1)
    (hb : ∀ pl, pl ≤ x1.length → (nthR bags pl).length = K ∧ ∀ k, k < K → -100000000 ≤ nth (nthR bags pl) k ∧ nth (nthR bags pl) k ≤ 1000) {pl : Nat} (hp : pl ≤ x1.length) :
    (nthR (takeB x1 x2 (nthPR x3 i) n bags) pl).length = K ∧ ∀ k, k < K → nth (nthR (takeB x1 x2 (nthPR x3 i) n bags) pl) k = nth (nthR bags pl) k - n * needs x1 x2 (nthPR x3 i) pl k := by
  obtain ⟨u1, u2, u3, _, _, _⟩ := h.upN hi
  have ho := h.out i hi
  have hq := h.inn i hi
  have hil := innS_len x2 (nthPR x3 i)
  unfold takeB needs
  rw [nthR_set (by simp; omega), nthR_set (by omega), nthR_set (by omega)]
  rw [if_neg u3]
  by_cases e1 : pl = upN x1 (nthPR x3 i)
  · have e2 : ¬ pl = cellN (nthPR x3 i) := by rw [e1]; exact u3
    simp only [if_pos e1, if_neg e2]
    have hbu := hb _ u2
    refine ⟨by rw [plusS_len]; exact hbu.1, fun k hk => ?_⟩
    rw [plusS_nth (by omega), addW_neg hn (innS_bd h hi hk) (by have := hbu.2 k hk; omega), e1]
    simp
  · simp only [if_neg e1]
    by_cases e2 : pl = cellN (nthPR x3 i)
    · simp only [if_pos e2]
      have hbc := hb (cellN (nthPR x3 i)) (by omega)
      refine ⟨by rw [plusS_len]; exact hbc.1, fun k hk => ?_⟩
      rw [plusS_nth (by omega), addW_neg hn (out_bd h hi hk) (by have := hbc.2 k hk; omega), e2]
      simp
    · simp only [if_neg e2]
      exact ⟨(hb pl hp).1, fun k hk => by simp⟩
theorem takeB_len (x1 : List Int) (x2 : List Bool) (r : PR) (n : Int) (bags : List (List Int)) : (takeB x1 x2 r n bags).length = bags.length := by simp [takeB]
theorem takeTo_len (x1 : List Int) (x2 : List Bool) (x3 : List PR) (cs : List Int) (bags : List (List Int)) : ∀ i, (takeTo x1 x2 x3 cs bags i).length = bags.length
  | 0 => rfl
  | i + 1 => by rw [takeTo, takeB_len, takeTo_len]
theorem takeTo_at {K : Nat} {x1 : List Int} {x2 : List Bool} {x3 : List PR} {y0 : List (List Int)} {y1 : List Int} {cs : List Int} (h : PsOk K x1 x2 x3) (hs : StOk K x1.length y0 y1) (hc : cntBd cs) :
    ∀ i, i ≤ x3.length → ∀ pl, pl ≤ x1.length → (nthR (takeTo x1 x2 x3 cs (bagsS y0 y1) i) pl).length = K ∧ ∀ k, k < K → nth (nthR (takeTo x1 x2 x3 cs (bagsS y0 y1) i) pl) k = lev x1 x2 x3 (bagsS y0 y1) cs i pl k
  | 0, _, pl, hp => ⟨(bagsS_ok hs hp).2, fun k _ => rfl⟩
  | i + 1, hi, pl, hp => by
    have ih := takeTo_at h hs hc i (by omega)
    have h8 := h.r8
    have hb : ∀ pl, pl ≤ x1.length → (nthR (takeTo x1 x2 x3 cs (bagsS y0 y1) i) pl).length = K ∧ ∀ k, k < K → -100000000 ≤ nth (nthR (takeTo x1 x2 x3 cs (bagsS y0 y1) i) pl) k ∧ nth (nthR (takeTo x1 x2 x3 cs (bagsS y0 y1) i) pl) k ≤ 1000 := fun pl hp => by
      refine ⟨(ih pl hp).1, fun k hk => ?_⟩
      rw [(ih pl hp).2 k hk]
      have := lev_bd h hc pl hk (bagsS_at hs hp hk) i (by omega)
      omega
    have := takeB_at h (i := i) (by omega) (hc i) (by rw [takeTo_len, bagsS_len, hs.len]) hb hp
    rw [takeTo]
    refine ⟨this.1, fun k hk => ?_⟩
    rw [this.2 k hk, (ih pl hp).2 k hk, lev]
def geB (b : List Int) : Bool := allB (fun n => decide (0 ≤ n)) b
/-- The counts fit, as the program reckons. -/
def fitsB (x1 : List Int) (x2 : List Bool) (x3 : List PR) (bags : List (List Int)) (cs : List Int) : Bool := allII geB (takeTo x1 x2 x3 cs bags cs.length)
theorem fitsB_iff {K : Nat} {x1 : List Int} {x2 : List Bool} {x3 : List PR} {y0 : List (List Int)} {y1 : List Int} {cs : List Int} (h : PsOk K x1 x2 x3) (hs : StOk K x1.length y0 y1) (hc : cntBd cs) (hl : cs.length = x3.length) :
    fitsB x1 x2 x3 (bagsS y0 y1) cs = true ↔ allGe x1.length K (lev x1 x2 x3 (bagsS y0 y1) cs x3.length) := by
  have ha := takeTo_at h hs hc x3.length (Nat.le_refl _)
  have hlen : (takeTo x1 x2 x3 cs (bagsS y0 y1) x3.length).length = x1.length + 1 := by rw [takeTo_len, bagsS_len, hs.len]
  unfold fitsB
  rw [hl]
  constructor
  · intro hf pl k hp hk
    have h1 := allII_at hf (k := pl) (by omega)
    have h2 := allB_at h1 (k := k) (by rw [(ha pl hp).1]; exact hk)
    rw [(ha pl hp).2 k hk] at h2
    simpa using h2
  · intro hf
    refine allII_true fun pl hp => allB_true fun k hk => ?_
    have hp' : pl ≤ x1.length := by omega
    rw [(ha pl hp').1] at hk
    rw [(ha pl hp').2 k hk]
    simpa using hf pl k hp' hk

/-! The reference's: all places in one list. -/
/-- One kind, at the places that begin at own and at up. -/
def takeK (own up : Nat) (r : PR) (n : Int) (ins : Bool) (k : Nat) (s : List Int × Bool) : List Int × Bool :=
  let xs1 := s.1.set (own + k) (wrap64 (nth s.1 (own + k) - wrap64 (nth r.out k * n)))
  let ok1 := s.2 && decide (0 ≤ nth xs1 (own + k))
  if ins = true then (xs1.set (up + k) (wrap64 (nth xs1 (up + k) - wrap64 (nth r.inn k * n))), ok1 && decide (0 ≤ nth (xs1.set (up + k) (wrap64 (nth xs1 (up + k) - wrap64 (nth r.inn k * n)))) (up + k))) else (xs1, ok1)
/-- Are kind k's objects in the bag In taken? -/
def insK (x2 : List Bool) (r : PR) (k : Nat) : Bool := decide (0 < r.cell) || !nthB x2 k
def takeF (own up : Nat) (x2 : List Bool) (r : PR) (n : Int) (xs : List Int) : Nat → List Int × Bool
  | 0 => (xs, true)
  | k + 1 => takeK own up r n (insK x2 r k) k (takeF own up x2 r n xs k)
theorem nth_set {xs : List Int} {i j : Nat} {v : Int} (h : i < xs.length) : nth (xs.set i v) j = if j = i then v else nth xs j := by
  by_cases e : j = i
  · subst e; simp [nth, h]
  · simp [nth, Ne.symm e, e]
theorem takeK_len (own up : Nat) (r : PR) (n : Int) (ins : Bool) (k : Nat) (s : List Int × Bool) : (takeK own up r n ins k s).1.length = s.1.length := by
  unfold takeK; dsimp only; split <;> simp
theorem takeF_len (own up : Nat) (x2 : List Bool) (r : PR) (n : Int) (xs : List Int) : ∀ k, (takeF own up x2 r n xs k).1.length = xs.length
  | 0 => rfl
  | k + 1 => by rw [takeF, takeK_len, takeF_len]
theorem idx_lt {pl k n K : Nat} (hp : pl ≤ n) (hk : k < K) : pl * K + k < (n + 1) * K := by
  have := Nat.mul_le_mul_right K hp
  rw [Nat.add_mul]; omega
theorem idx_inj {pl k pl' k' K : Nat} (hk : k < K) (hk' : k' < K) (h : pl * K + k = pl' * K + k') : pl = pl' ∧ k = k' := by
  have h1 : (pl * K + k) / K = pl := by rw [Nat.mul_comm, Nat.mul_add_div (by omega), Nat.div_eq_of_lt hk]; rfl
  have h2 : (pl' * K + k') / K = pl' := by rw [Nat.mul_comm, Nat.mul_add_div (by omega), Nat.div_eq_of_lt hk']; rfl
  have e : pl = pl' := by rw [← h1, ← h2, h]
  subst e
  exact ⟨rfl, by omega⟩
theorem innS_ins {K : Nat} {x1 : List Int} {x2 : List Bool} {x3 : List PR} (h : PsOk K x1 x2 x3) {i : Nat} (hi : i < x3.length) {k : Nat} (hk : k < K) : nth (innS x2 (nthPR x3 i)) k = if insK x2 (nthPR x3 i) k = true then nth (nthPR x3 i).inn k else 0 := by
  have hc := h.cell i hi
  have hq := (h.inn i hi).2
  unfold innS insK
  by_cases e : (nthPR x3 i).cell = 0
  · rw [if_pos e, boundS_at (by omega), e]
    cases nthB x2 k <;> simp
  · rw [if_neg e]
    have : 0 < (nthPR x3 i).cell := by omega
    simp [this]
theorem needs_cell {K : Nat} {x1 : List Int} {x2 : List Bool} {x3 : List PR} (h : PsOk K x1 x2 x3) {i : Nat} (hi : i < x3.length) (k : Nat) : needs x1 x2 (nthPR x3 i) (cellN (nthPR x3 i)) k = nth (nthPR x3 i).out k := by
  obtain ⟨_, _, u3, _⟩ := h.upN hi
  unfold needs
  rw [if_pos rfl, if_neg (Ne.symm u3)]; omega
theorem needs_up {K : Nat} {x1 : List Int} {x2 : List Bool} {x3 : List PR} (h : PsOk K x1 x2 x3) {i : Nat} (hi : i < x3.length) (k : Nat) : needs x1 x2 (nthPR x3 i) (upN x1 (nthPR x3 i)) k = nth (innS x2 (nthPR x3 i)) k := by
  obtain ⟨_, _, u3, _⟩ := h.upN hi
  unfold needs
  rw [if_neg u3, if_pos rfl]; omega
theorem needs_else {x1 : List Int} {x2 : List Bool} {r : PR} {pl : Nat} (h1 : pl ≠ cellN r) (h2 : pl ≠ upN x1 r) (k : Nat) : needs x1 x2 r pl k = 0 := by
  unfold needs
  rw [if_neg h1, if_neg h2]; rfl
theorem wrap_sub {x n y : Int} (h : 0 ≤ n ∧ n ≤ 1001) (hy : 0 ≤ y ∧ y ≤ 1000) (hx : -100000000 ≤ x ∧ x ≤ 100000000) : wrap64 (x - wrap64 (y * n)) = x - n * y := by
  have hm := mul_bd h hy
  rw [Int.mul_comm y n]
  unfold wrap64; omega
/-- The flat list holds f. -/
def Flat (K n : Nat) (xs : List Int) (f : Nat → Nat → Int) : Prop := xs.length = (n + 1) * K ∧ ∀ pl k, pl ≤ n → k < K → nth xs (pl * K + k) = f pl k
/-- What a rule leaves. -/
def less (x1 : List Int) (x2 : List Bool) (r : PR) (n : Int) (f : Nat → Nat → Int) (pl k : Nat) : Int := f pl k - n * needs x1 x2 r pl k
theorem takeF_at {K : Nat} {x1 : List Int} {x2 : List Bool} {x3 : List PR} (h : PsOk K x1 x2 x3) {i : Nat} (hi : i < x3.length) {n : Int} (hn : 0 ≤ n ∧ n ≤ 1001) {f : Nat → Nat → Int} (hf : ∀ pl k, pl ≤ x1.length → k < K → -100000000 ≤ f pl k ∧ f pl k ≤ 1000) {xs : List Int} (hx : Flat K x1.length xs f) :
    ∀ j, j ≤ K → (∀ pl k, pl ≤ x1.length → k < K → nth (takeF (cellN (nthPR x3 i) * K) (upN x1 (nthPR x3 i) * K) x2 (nthPR x3 i) n xs j).1 (pl * K + k) = if k < j then less x1 x2 (nthPR x3 i) n f pl k else f pl k) ∧
      ((takeF (cellN (nthPR x3 i) * K) (upN x1 (nthPR x3 i) * K) x2 (nthPR x3 i) n xs j).2 = true ↔ ∀ k, k < j → 0 ≤ less x1 x2 (nthPR x3 i) n f (cellN (nthPR x3 i)) k ∧ (insK x2 (nthPR x3 i) k = true → 0 ≤ less x1 x2 (nthPR x3 i) n f (upN x1 (nthPR x3 i)) k))
  | 0, _ => ⟨fun pl k hp hk => by rw [takeF, if_neg (by omega)]; exact hx.2 pl k hp hk, by simp [takeF]⟩
  | j + 1, hj => by
    obtain ⟨ih1, ih2⟩ := takeF_at h hi hn hf hx j (by omega)
    obtain ⟨u1, u2, u3, _⟩ := h.upN hi
    have hlen := takeF_len (cellN (nthPR x3 i) * K) (upN x1 (nthPR x3 i) * K) x2 (nthPR x3 i) n xs j
    rw [hx.1] at hlen
    have ha := idx_lt (K := K) (k := j) (show cellN (nthPR x3 i) ≤ x1.length by omega) (by omega)
    have hb := idx_lt (K := K) (k := j) u2 (by omega)
    have hab : cellN (nthPR x3 i) * K + j ≠ upN x1 (nthPR x3 i) * K + j := fun e => u3 (idx_inj (by omega) (by omega) e).1.symm
    have va := ih1 (cellN (nthPR x3 i)) j (by omega) (by omega)
    have vb := ih1 (upN x1 (nthPR x3 i)) j u2 (by omega)
    rw [if_neg (by omega)] at va vb
    have wa : wrap64 (f (cellN (nthPR x3 i)) j - wrap64 (nth (nthPR x3 i).out j * n)) = less x1 x2 (nthPR x3 i) n f (cellN (nthPR x3 i)) j := by
      rw [wrap_sub hn (out_bd h hi (by omega)) (by have := hf (cellN (nthPR x3 i)) j (by omega) (by omega); omega), less, needs_cell h hi]
    have wb : insK x2 (nthPR x3 i) j = true → wrap64 (f (upN x1 (nthPR x3 i)) j - wrap64 (nth (nthPR x3 i).inn j * n)) = less x1 x2 (nthPR x3 i) n f (upN x1 (nthPR x3 i)) j := fun hin => by
      rw [wrap_sub hn (inn_bd h hi (by omega)) (by have := hf (upN x1 (nthPR x3 i)) j u2 (by omega); omega), less, needs_up h hi, innS_ins h hi (by omega), if_pos hin]
    have wc : ¬ insK x2 (nthPR x3 i) j = true → less x1 x2 (nthPR x3 i) n f (upN x1 (nthPR x3 i)) j = f (upN x1 (nthPR x3 i)) j := fun hin => by
      rw [less, needs_up h hi, innS_ins h hi (by omega), if_neg hin]; simp
    rw [takeF]
    generalize hS : takeF (cellN (nthPR x3 i) * K) (upN x1 (nthPR x3 i) * K) x2 (nthPR x3 i) n xs j = S at *
    have hx1 : ∀ q, nth (S.1.set (cellN (nthPR x3 i) * K + j) (wrap64 (nth S.1 (cellN (nthPR x3 i) * K + j) - wrap64 (nth (nthPR x3 i).out j * n)))) q = if q = cellN (nthPR x3 i) * K + j then less x1 x2 (nthPR x3 i) n f (cellN (nthPR x3 i)) j else nth S.1 q := fun q => by
      rw [nth_set (by omega), va, wa]
    have hx2 : insK x2 (nthPR x3 i) j = true → ∀ q, nth ((S.1.set (cellN (nthPR x3 i) * K + j) (wrap64 (nth S.1 (cellN (nthPR x3 i) * K + j) - wrap64 (nth (nthPR x3 i).out j * n)))).set (upN x1 (nthPR x3 i) * K + j) (wrap64 (nth (S.1.set (cellN (nthPR x3 i) * K + j) (wrap64 (nth S.1 (cellN (nthPR x3 i) * K + j) - wrap64 (nth (nthPR x3 i).out j * n)))) (upN x1 (nthPR x3 i) * K + j) - wrap64 (nth (nthPR x3 i).inn j * n)))) q =
        if q = upN x1 (nthPR x3 i) * K + j then less x1 x2 (nthPR x3 i) n f (upN x1 (nthPR x3 i)) j else if q = cellN (nthPR x3 i) * K + j then less x1 x2 (nthPR x3 i) n f (cellN (nthPR x3 i)) j else nth S.1 q := fun hin q => by
      rw [nth_set (by simp; omega), hx1, if_neg (Ne.symm hab), vb, wb hin]
      by_cases e : q = upN x1 (nthPR x3 i) * K + j
      · rw [if_pos e, if_pos e]
      · rw [if_neg e, if_neg e, hx1]
    by_cases hin : insK x2 (nthPR x3 i) j = true
    · simp only [takeK, hin, if_true]
      constructor
      · intro pl k hp hk
        rw [hx2 hin]
        by_cases e1 : pl * K + k = upN x1 (nthPR x3 i) * K + j
        · obtain ⟨rfl, rfl⟩ := idx_inj hk (by omega) e1
          rw [if_pos rfl, if_pos (by omega)]
        · rw [if_neg e1]
          by_cases e2 : pl * K + k = cellN (nthPR x3 i) * K + j
          · obtain ⟨rfl, rfl⟩ := idx_inj hk (by omega) e2
            rw [if_pos rfl, if_pos (by omega)]
          · rw [if_neg e2, ih1 pl k hp hk]
            by_cases e3 : k < j
            · rw [if_pos e3, if_pos (by omega)]
            · rw [if_neg e3]
              by_cases e4 : k = j
              · subst e4
                rw [if_pos (by omega), less, needs_else (fun e => e2 (by rw [e])) (fun e => e1 (by rw [e]))]; simp
              · rw [if_neg (by omega)]
      · rw [hx2 hin, if_pos rfl, hx1, if_pos rfl]
        simp only [Bool.and_eq_true, decide_eq_true_eq, ih2]
        constructor
        · rintro ⟨⟨g1, g2⟩, g3⟩ k hk
          by_cases e : k = j
          · subst e; exact ⟨g2, fun _ => g3⟩
          · exact g1 k (by omega)
        · intro g
          exact ⟨⟨fun k hk => g k (by omega), (g j (by omega)).1⟩, (g j (by omega)).2 hin⟩
    · simp only [takeK, hin, Bool.false_eq_true, if_false]
      constructor
      · intro pl k hp hk
        rw [hx1]
        by_cases e2 : pl * K + k = cellN (nthPR x3 i) * K + j
        · obtain ⟨rfl, rfl⟩ := idx_inj hk (by omega) e2
          rw [if_pos rfl, if_pos (by omega)]
        · rw [if_neg e2, ih1 pl k hp hk]
          by_cases e3 : k < j
          · rw [if_pos e3, if_pos (by omega)]
          · rw [if_neg e3]
            by_cases e4 : k = j
            · subst e4
              rw [if_pos (by omega)]
              by_cases e5 : pl = upN x1 (nthPR x3 i)
              · subst e5; rw [wc hin]
              · rw [less, needs_else (fun e => e2 (by rw [e])) e5]; simp
            · rw [if_neg (by omega)]
      · rw [hx1, if_pos rfl]
        simp only [Bool.and_eq_true, decide_eq_true_eq, ih2]
        constructor
        · rintro ⟨g1, g2⟩ k hk
          by_cases e : k = j
          · subst e; exact ⟨g2, fun h => absurd h hin⟩
          · exact g1 k (by omega)
        · intro g
          exact ⟨fun k hk => g k (by omega), (g j (by omega)).1⟩
theorem takeF_all {K : Nat} {x1 : List Int} {x2 : List Bool} {x3 : List PR} (h : PsOk K x1 x2 x3) {i : Nat} (hi : i < x3.length) {n : Int} (hn : 0 ≤ n ∧ n ≤ 1001) {f : Nat → Nat → Int} (hf : ∀ pl k, pl ≤ x1.length → k < K → -100000000 ≤ f pl k ∧ f pl k ≤ 1000) {xs : List Int} (hx : Flat K x1.length xs f) :
    Flat K x1.length (takeF (cellN (nthPR x3 i) * K) (upN x1 (nthPR x3 i) * K) x2 (nthPR x3 i) n xs K).1 (less x1 x2 (nthPR x3 i) n f) ∧
    (allGe x1.length K f → ((takeF (cellN (nthPR x3 i) * K) (upN x1 (nthPR x3 i) * K) x2 (nthPR x3 i) n xs K).2 = true ↔ allGe x1.length K (less x1 x2 (nthPR x3 i) n f))) := by
  obtain ⟨h1, h2⟩ := takeF_at h hi hn hf hx K (Nat.le_refl _)
  obtain ⟨u1, u2, u3, _⟩ := h.upN hi
  refine ⟨⟨by rw [takeF_len, hx.1], fun pl k hp hk => by rw [h1 pl k hp hk, if_pos hk]⟩, fun h0 => ?_⟩
  rw [h2]
  constructor
  · intro g pl k hp hk
    by_cases e1 : pl = cellN (nthPR x3 i)
    · rw [e1]; exact (g k hk).1
    · by_cases e2 : pl = upN x1 (nthPR x3 i)
      · rw [e2]
        by_cases hin : insK x2 (nthPR x3 i) k = true
        · exact (g k hk).2 hin
        · rw [less, needs_up h hi, innS_ins h hi hk, if_neg hin]
          have := h0 _ k u2 hk
          omega
      · rw [less, needs_else e1 e2]
        have := h0 pl k hp hk
        omega
  · intro g k hk
    exact ⟨g _ k (by omega) hk, fun _ => g _ k u2 hk⟩
/-- What the counts leave, as the reference reckons: it stops where something lacks. -/
def leftF (K : Nat) (x1 : List Int) (x2 : List Bool) (x3 : List PR) (cs : List Int) (flat : List Int) : Nat → List Int × Bool
  | 0 => (flat, true)
  | i + 1 => if (leftF K x1 x2 x3 cs flat i).2 = true then takeF (cellN (nthPR x3 i) * K) (upN x1 (nthPR x3 i) * K) x2 (nthPR x3 i) (nth cs i) (leftF K x1 x2 x3 cs flat i).1 K else leftF K x1 x2 x3 cs flat i
theorem flatten_nth {K : Nat} : ∀ (bags : List (List Int)), (∀ pl, pl < bags.length → (nthR bags pl).length = K) → bags.flatten.length = bags.length * K ∧ ∀ pl k, pl < bags.length → k < K → nth bags.flatten (pl * K + k) = nth (nthR bags pl) k
  | [], _ => ⟨by simp, fun pl k hp => absurd hp (by simp)⟩
  | b :: bags, h => by
    have h0 : b.length = K := by have := h 0 (by simp); simpa [nthR] using this
    obtain ⟨i1, i2⟩ := flatten_nth (K := K) bags (fun pl hp => by have := h (pl + 1) (by simp; omega); simpa [nthR] using this)
    refine ⟨by simp only [List.flatten_cons, List.length_append, List.length_cons, i1, h0, Nat.add_mul]; omega, fun pl k hp hk => ?_⟩
    cases pl with
    | zero =>
      simp only [List.flatten_cons, Nat.zero_mul, Nat.zero_add, nthR, nth, List.getD_cons_zero]
      rw [List.getD_eq_getElem?_getD, List.getElem?_append_left (by omega), ← List.getD_eq_getElem?_getD]
    | succ pl =>
      have := i2 pl k (by simp at hp; omega) hk
      simp only [nthR, List.getD_cons_succ]
      rw [show nthR bags pl = bags.getD pl [] from rfl] at this
      rw [← this]
      simp only [nth, List.flatten_cons]
      rw [List.getD_eq_getElem?_getD, List.getElem?_append_right (by rw [h0, Nat.add_mul]; omega), ← List.getD_eq_getElem?_getD, h0, show (pl + 1) * K + k - K = pl * K + k from by rw [Nat.add_mul]; omega]
theorem flat_start {K : Nat} {n : Nat} {y0 : List (List Int)} {y1 : List Int} (hs : StOk K n y0 y1) : Flat K n (bagsS y0 y1).flatten (fun pl k => nth (nthR (bagsS y0 y1) pl) k) := by
  have hl := hs.len
  obtain ⟨h1, h2⟩ := flatten_nth (K := K) (bagsS y0 y1) (fun pl hp => (bagsS_ok hs (by rw [bagsS_len] at hp; omega)).2)
  exact ⟨by rw [h1, bagsS_len, hl], fun pl k hp hk => h2 pl k (by rw [bagsS_len]; omega) hk⟩
theorem start_ge {K : Nat} {n : Nat} {y0 : List (List Int)} {y1 : List Int} (hs : StOk K n y0 y1) : allGe n K (fun pl k => nth (nthR (bagsS y0 y1) pl) k) := fun _ _ hp hk => (bagsS_at hs hp hk).1
theorem leftF_at {K : Nat} {x1 : List Int} {x2 : List Bool} {x3 : List PR} {y0 : List (List Int)} {y1 : List Int} {cs : List Int} (h : PsOk K x1 x2 x3) (hs : StOk K x1.length y0 y1) (hc : cntBd cs) :
    ∀ i, i ≤ x3.length → ((leftF K x1 x2 x3 cs (bagsS y0 y1).flatten i).2 = true ↔ allGe x1.length K (lev x1 x2 x3 (bagsS y0 y1) cs i)) ∧ ((leftF K x1 x2 x3 cs (bagsS y0 y1).flatten i).2 = true → Flat K x1.length (leftF K x1 x2 x3 cs (bagsS y0 y1).flatten i).1 (lev x1 x2 x3 (bagsS y0 y1) cs i))
  | 0, _ => ⟨by simp only [leftF, true_iff]; exact start_ge hs, fun _ => flat_start hs⟩
  | i + 1, hi => by
    obtain ⟨i1, i2⟩ := leftF_at h hs hc i (by omega)
    have h8 := h.r8
    unfold leftF
    by_cases e : (leftF K x1 x2 x3 cs (bagsS y0 y1).flatten i).2 = true
    · rw [if_pos e]
      obtain ⟨t1, t2⟩ := takeF_all h (i := i) (by omega) (hc i) (fun pl k hp hk => by have := lev_bd h hc pl hk (bagsS_at hs hp hk) i (by omega); omega) (i2 e)
      exact ⟨t2 (i1.1 e), fun _ => t1⟩
    · rw [if_neg e]
      refine ⟨⟨fun h' => absurd h' e, fun hg => ?_⟩, fun h' => absurd h' e⟩
      exfalso
      refine e (i1.2 fun pl k hp hk => ?_)
      have h1 := lev_mono h hc pl hk (bags := bagsS y0 y1) i 1 (by omega)
      have h2 := hg pl k hp hk
      omega
theorem left_fits {K : Nat} {x1 : List Int} {x2 : List Bool} {x3 : List PR} {y0 : List (List Int)} {y1 : List Int} {cs : List Int} (h : PsOk K x1 x2 x3) (hs : StOk K x1.length y0 y1) (hc : cntBd cs) (hl : cs.length = x3.length) :
    (leftF K x1 x2 x3 cs (bagsS y0 y1).flatten x3.length).2 = fitsB x1 x2 x3 (bagsS y0 y1) cs := by
  rw [Bool.eq_iff_iff, (leftF_at h hs hc x3.length (Nat.le_refl _)).1, fitsB_iff h hs hc hl]
/-- One more of a rule. -/
theorem lev_more {x1 : List Int} {x2 : List Bool} {x3 : List PR} {bags : List (List Int)} {cs : List Int} {q : Nat} (hq : q < cs.length) (pl k : Nat) :
    ∀ i, lev x1 x2 x3 bags (cs.set q (nth cs q + 1)) i pl k = lev x1 x2 x3 bags cs i pl k - (if q < i then needs x1 x2 (nthPR x3 q) pl k else 0)
  | 0 => by simp [lev]
  | i + 1 => by
    rw [lev, lev, lev_more hq pl k i, nth_set hq]
    by_cases e : i = q
    · subst e
      rw [if_pos rfl, if_neg (by omega), if_pos (by omega), Int.add_mul]; omega
    · rw [if_neg e]
      by_cases e2 : q < i
      · rw [if_pos e2, if_pos (by omega)]; omega
      · rw [if_neg e2, if_neg (by omega)]; omega
theorem lev_zero {x1 : List Int} {x2 : List Bool} {x3 : List PR} {bags : List (List Int)} {m : Nat} (pl k : Nat) : ∀ i, lev x1 x2 x3 bags (List.replicate m 0) i pl k = nth (nthR bags pl) k
  | 0 => rfl
  | i + 1 => by
    rw [lev, lev_zero pl k i]
    have : nth (List.replicate m (0 : Int)) i = 0 := by
      unfold nth
      rw [List.getD_eq_getElem?_getD, List.getElem?_replicate]
      split <;> rfl
    rw [this]; omega
/-- Whether one more of a rule fits. -/
theorem room_fits {K : Nat} {x1 : List Int} {x2 : List Bool} {x3 : List PR} {y0 : List (List Int)} {y1 : List Int} {cs : List Int} (h : PsOk K x1 x2 x3) (hs : StOk K x1.length y0 y1) (hc : ∀ j, 0 ≤ nth cs j ∧ nth cs j ≤ 1000) (hl : cs.length = x3.length) {q : Nat} (hq : q < x3.length)
    (hf : fitsB x1 x2 x3 (bagsS y0 y1) cs = true) {xs : List Int} (hx : Flat K x1.length xs (lev x1 x2 x3 (bagsS y0 y1) cs x3.length)) :
    (takeF (cellN (nthPR x3 q) * K) (upN x1 (nthPR x3 q) * K) x2 (nthPR x3 q) 1 xs K).2 = fitsB x1 x2 x3 (bagsS y0 y1) (cs.set q (nth cs q + 1)) := by
  have h8 := h.r8
  have hc1 : cntBd cs := fun j => by have := hc j; omega
  have hc2 : cntBd (cs.set q (nth cs q + 1)) := fun j => by
    rw [nth_set (by omega)]
    have := hc j
    have := hc q
    split <;> omega
  have hg := (fitsB_iff h hs hc1 hl).1 hf
  rw [Bool.eq_iff_iff, fitsB_iff h hs hc2 (by simpa using hl), ((takeF_all h hq (n := 1) (by omega) (fun pl k hp hk => by have := lev_bd h hc1 pl hk (bagsS_at hs hp hk) x3.length (by omega); omega) hx).2 hg)]
  have e : ∀ pl k, less x1 x2 (nthPR x3 q) 1 (lev x1 x2 x3 (bagsS y0 y1) cs x3.length) pl k = lev x1 x2 x3 (bagsS y0 y1) (cs.set q (nth cs q + 1)) x3.length pl k := fun pl k => by
    rw [lev_more (by omega), if_pos hq, less]; omega
  unfold allGe
  simp only [e]
theorem zeros_ok (m : Nat) (j : Nat) : 0 ≤ nth (List.replicate m (0 : Int)) j ∧ nth (List.replicate m (0 : Int)) j ≤ 1000 := by
  have : nth (List.replicate m (0 : Int)) j = 0 := by
    unfold nth
    rw [List.getD_eq_getElem?_getD, List.getElem?_replicate]
    split <;> rfl
  omega
theorem zeros_fit {K : Nat} {x1 : List Int} {x2 : List Bool} {x3 : List PR} {y0 : List (List Int)} {y1 : List Int} (h : PsOk K x1 x2 x3) (hs : StOk K x1.length y0 y1) : fitsB x1 x2 x3 (bagsS y0 y1) (List.replicate x3.length 0) = true := by
  rw [fitsB_iff h hs (fun j => by have := zeros_ok x3.length j; omega) (by simp)]
  intro pl k hp hk
  rw [lev_zero]
  exact start_ge hs pl k hp hk
/-- One of a rule alone. -/
theorem can_fits {K : Nat} {x1 : List Int} {x2 : List Bool} {x3 : List PR} {y0 : List (List Int)} {y1 : List Int} (h : PsOk K x1 x2 x3) (hs : StOk K x1.length y0 y1) {q : Nat} (hq : q < x3.length) :
    (takeF (cellN (nthPR x3 q) * K) (upN x1 (nthPR x3 q) * K) x2 (nthPR x3 q) 1 (bagsS y0 y1).flatten K).2 = fitsB x1 x2 x3 (bagsS y0 y1) ((List.replicate x3.length 0).set q 1) := by
  have e0 : nth (List.replicate x3.length (0 : Int)) q + 1 = 1 := by
    have : nth (List.replicate x3.length (0 : Int)) q = 0 := by simp [nth, hq]
    omega
  have := room_fits h hs (cs := List.replicate x3.length 0) (zeros_ok _) (by simp) hq (zeros_fit h hs) (xs := (bagsS y0 y1).flatten) (by
    have hst := flat_start hs
    refine ⟨hst.1, fun pl k hp hk => ?_⟩
    rw [lev_zero]; exact hst.2 pl k hp hk)
  rw [e0] at this
  exact this
end Go.Proofs.YtbnikblhnibgiaaGreatDoor

/- Weights of places: plain sums. No program is in sight. -/
namespace Go.Proofs.YtbnikblhnibgiaaGreatDoor
open Go.RowKit

def sumN (f : Nat → Int) : Nat → Int
  | 0 => 0
  | n + 1 => sumN f n + f n
theorem sumN_congr {f g : Nat → Int} : ∀ n, (∀ i, i < n → f i = g i) → sumN f n = sumN g n
  | 0, _ => rfl
  | n + 1, h => by rw [sumN, sumN, sumN_congr n (fun i hi => h i (by omega)), h n (by omega)]
theorem sumN_add (f g : Nat → Int) : ∀ n, sumN (fun i => f i + g i) n = sumN f n + sumN g n
  | 0 => rfl
  | n + 1 => by simp only [sumN, sumN_add f g n]; omega
theorem sumN_neg (f : Nat → Int) : ∀ n, sumN (fun i => - f i) n = - sumN f n
  | 0 => rfl
  | n + 1 => by simp only [sumN, sumN_neg f n]; omega
theorem sumN_zero {f : Nat → Int} : ∀ n, (∀ i, i < n → f i = 0) → sumN f n = 0
  | 0, _ => rfl
  | n + 1, h => by rw [sumN, sumN_zero n (fun i hi => h i (by omega)), h n (by omega)]; rfl
theorem sumN_split (f : Nat → Int) (m : Nat) : ∀ n, sumN f (m + n) = sumN f m + sumN (fun i => f (m + i)) n
  | 0 => by simp [sumN]
  | n + 1 => by rw [← Nat.add_assoc, sumN, sumN_split f m n, sumN]; omega
theorem sumN_block (f : Nat → Int) (K : Nat) : ∀ n, sumN f (n * K) = sumN (fun pl => sumN (fun k => f (pl * K + k)) K) n
  | 0 => by simp [sumN]
  | n + 1 => by rw [Nat.add_mul, Nat.one_mul, sumN_split, sumN_block f K n, sumN]
theorem sumN_one {f : Nat → Int} {a : Nat} : ∀ n, a < n → (∀ i, i < n → i ≠ a → f i = 0) → sumN f n = f a
  | 0, h, _ => absurd h (by omega)
  | n + 1, h, hz => by
    rw [sumN]
    by_cases e : a = n
    · subst e
      rw [sumN_zero a (fun i hi => hz i (by omega) (by omega))]; omega
    · rw [sumN_one n (by omega) (fun i hi h => hz i (by omega) h), hz n (by omega) (Ne.symm e)]; omega
theorem sumN_two {f : Nat → Int} {a b : Nat} {n : Nat} (ha : a < n) (hb : b < n) (hab : a ≠ b) (hz : ∀ i, i < n → i ≠ a → i ≠ b → f i = 0) : sumN f n = f a + f b := by
  have h1 : sumN f n = sumN (fun i => (if i = a then f a else 0) + (if i = b then f b else 0)) n := sumN_congr n fun i hi => by
    by_cases e1 : i = a
    · subst e1; rw [if_pos rfl, if_neg hab]; omega
    · by_cases e2 : i = b
      · subst e2; rw [if_neg e1, if_pos rfl]; omega
      · rw [if_neg e1, if_neg e2, hz i hi e1 e2]; rfl
  rw [h1, sumN_add, sumN_one n ha (fun i _ h => if_neg h), sumN_one n hb (fun i _ h => if_neg h), if_pos rfl, if_pos rfl]
theorem sumN_bd {f : Nat → Int} {B : Int} : ∀ n, (∀ i, i < n → -B ≤ f i ∧ f i ≤ B) → -(B * n) ≤ sumN f n ∧ sumN f n ≤ B * n
  | 0, _ => by simp [sumN]
  | n + 1, h => by
    have ih := sumN_bd n (fun i hi => h i (by omega))
    have h1 := h n (by omega)
    rw [sumN]
    have e : B * ((n + 1 : Nat) : Int) = B * n + B := by rw [show ((n + 1 : Nat) : Int) = (n : Int) + 1 by omega, Int.mul_add]; omega
    rw [e]; omega
/-- A sum of products. -/
def dotN (xs ys : List Int) (n : Nat) : Int := sumN (fun k => nth xs k * nth ys k) n
/-- As the machine reckons it. -/
def dotTo (xs ys : List Int) : Nat → Int
  | 0 => 0
  | k + 1 => wrap64 (dotTo xs ys k + wrap64 (nth xs k * nth ys k))
theorem prod_bd {a b A : Int} (h1 : -A ≤ a ∧ a ≤ A) (h2 : -1000 ≤ b ∧ b ≤ 1000) : -(A * 1000) ≤ a * b ∧ a * b ≤ A * 1000 := by
  have hA : 0 ≤ A := by omega
  rcases Int.le_total 0 a with ha | ha <;> rcases Int.le_total 0 b with hb | hb
  · have := Int.mul_le_mul h1.2 h2.2 hb hA
    have := Int.mul_nonneg ha hb
    omega
  · have := Int.mul_le_mul h1.2 (show -b ≤ 1000 by omega) (by omega) hA
    have := Int.mul_nonneg ha (show 0 ≤ -b by omega)
    rw [Int.mul_neg] at *
    omega
  · have := Int.mul_le_mul (show -a ≤ A by omega) h2.2 hb hA
    have := Int.mul_nonneg (show 0 ≤ -a by omega) hb
    rw [Int.neg_mul] at *
    omega
  · have := Int.mul_le_mul (show -a ≤ A by omega) (show -b ≤ 1000 by omega) (by omega) hA
    have := Int.mul_nonneg (show 0 ≤ -a by omega) (show 0 ≤ -b by omega)
    rw [Int.neg_mul_neg] at *
    omega
theorem dotTo_eq {xs ys : List Int} {n : Nat} (hn : n ≤ 100) (hx : ∀ k, k < n → -5000 ≤ nth xs k ∧ nth xs k ≤ 5000) (hy : ∀ k, k < n → -1000 ≤ nth ys k ∧ nth ys k ≤ 1000) : ∀ k, k ≤ n → dotTo xs ys k = dotN xs ys k
  | 0, _ => rfl
  | k + 1, hk => by
    have ih := dotTo_eq hn hx hy k (by omega)
    have hb := sumN_bd (f := fun k => nth xs k * nth ys k) (B := 5000000) k (fun i hi => by have := prod_bd (hx i (by omega)) (hy i (by omega)); omega)
    have h1 := prod_bd (hx k (by omega)) (hy k (by omega))
    rw [dotTo, ih, dotN, dotN, sumN]
    have hk2 : (k : Int) ≤ 100 := by omega
    unfold wrap64
    generalize sumN (fun k => nth xs k * nth ys k) k = A at *
    generalize nth xs k * nth ys k = B at *
    omega
theorem weigh_eq {xs ws : List Int} (hn : xs.length ≤ 100) (hx : ∀ k, k < xs.length → -5000 ≤ nth xs k ∧ nth xs k ≤ 5000) (hy : ∀ k, k < xs.length → -1000 ≤ nth ws k ∧ nth ws k ≤ 1000) : weighS xs ws = dotN xs ws xs.length := by
  have key : ∀ k, k ≤ xs.length → sumTo (zipF mulW xs ws xs.length) k = dotTo xs ws k := by
    intro k
    induction k with
    | zero => intro _; rfl
    | succ k ih => intro hk; rw [sumTo, ih (by omega), zipF_at (by omega), dotTo, mulW]
  unfold weighS sumS
  rw [zipF_len, key _ (Nat.le_refl _), dotTo_eq hn hx hy _ (Nat.le_refl _)]
/-- The lists are weights. -/
def wOk (x0 : Int) (l : List Int) : Bool := ((l.length : Int) == x0) && allB (fun w => inRg w (-1000) 1000) l
def areW (x0 : Int) (n : Nat) (ws : List (List Int)) : Bool := decide (ws.length = n + 1) && allII (wOk x0) ws
theorem areW_ok {K : Nat} {n : Nat} {ws : List (List Int)} (h : areW K n ws = true) : ws.length = n + 1 ∧ ∀ pl, pl ≤ n → (nthR ws pl).length = K ∧ ∀ k, k < K → -1000 ≤ nth (nthR ws pl) k ∧ nth (nthR ws pl) k ≤ 1000 := by
  simp only [areW, Bool.and_eq_true, decide_eq_true_eq] at h
  refine ⟨h.1, fun pl hp => ?_⟩
  have h2 := allII_at h.2 (k := pl) (by omega)
  simp only [wOk, Bool.and_eq_true, beq_iff_eq] at h2
  refine ⟨by omega, fun k hk => ?_⟩
  have := allB_at h2.2 (k := k) (by omega)
  simpa [inRg] using this
/-- The weight of all places. -/
def invS (K n : Nat) (ws : List (List Int)) (y0 : List (List Int)) (y1 : List Int) : Int := dotN y1 (nthR ws n) K + sumN (fun c => dotN (nthR y0 c) (nthR ws c) K) n
/-- The program's sum. -/
def invTo (ws : List (List Int)) (y0 : List (List Int)) (y1 : List Int) (n : Nat) : Nat → Int
  | 0 => weighS y1 (nthR ws n)
  | c + 1 => wrap64 (invTo ws y0 y1 n c + weighS (nthR y0 c) (nthR ws c))
theorem bag_bd {b : List Int} {K : Nat} (h : isBagS b = true ∧ b.length = K) : ∀ k, k < b.length → -5000 ≤ nth b k ∧ nth b k ≤ 5000 := fun k hk => by
  have := isBagS_at h.1 hk; omega
theorem invTo_eq {K : Nat} {n : Nat} {ws y0 : List (List Int)} {y1 : List Int} (hK : K ≤ 8) (hn : n ≤ 4) (hs : StOk K n y0 y1) (hw : areW K n ws = true) : ∀ c, c ≤ n → invTo ws y0 y1 n c = dotN y1 (nthR ws n) K + sumN (fun c => dotN (nthR y0 c) (nthR ws c) K) c
  | 0, _ => by
    have w := (areW_ok hw).2 n (Nat.le_refl _)
    have ha := hs.around
    rw [invTo, weigh_eq (by omega) (bag_bd ha) (fun k hk => w.2 k (by omega)), ha.2, sumN]; omega
  | c + 1, hc => by
    have ih := invTo_eq hK hn hs hw c (by omega)
    have w := (areW_ok hw).2 c (by omega)
    have hb := hs.bag c (by omega)
    have bd : ∀ (x y : List Int), (∀ k, k < K → -5000 ≤ nth x k ∧ nth x k ≤ 5000) → (∀ k, k < K → -1000 ≤ nth y k ∧ nth y k ≤ 1000) → -40000000 ≤ dotN x y K ∧ dotN x y K ≤ 40000000 := fun x y hx hy => by
      have := sumN_bd (f := fun k => nth x k * nth y k) (B := 5000000) K (fun i hi => by have := prod_bd (hx i hi) (hy i hi); omega)
      have : (K : Int) ≤ 8 := by omega
      unfold dotN; omega
    have b1 := bd y1 (nthR ws n) (fun k hk => bag_bd hs.around k (by rw [hs.around.2]; exact hk)) ((areW_ok hw).2 n (Nat.le_refl _)).2
    have b2 := sumN_bd (f := fun c => dotN (nthR y0 c) (nthR ws c) K) (B := 40000000) c (fun i hi => bd _ _ (fun k hk => bag_bd (hs.bag i (by omega)) k (by rw [(hs.bag i (by omega)).2]; exact hk)) ((areW_ok hw).2 i (by omega)).2)
    have b3 := bd (nthR y0 c) (nthR ws c) (fun k hk => bag_bd hb k (by rw [hb.2]; exact hk)) w.2
    have : (c : Int) ≤ 4 := by omega
    rw [invTo, ih, weigh_eq (by omega) (bag_bd hb) (fun k hk => w.2 k (by omega)), hb.2, sumN]
    unfold wrap64; omega
theorem flat_sum {K n : Nat} {xs ys : List Int} {f g : Nat → Nat → Int} (hx : Flat K n xs f) (hy : Flat K n ys g) : dotN xs ys ((n + 1) * K) = sumN (fun pl => sumN (fun k => f pl k * g pl k) K) (n + 1) := by
  unfold dotN
  rw [sumN_block]
  exact sumN_congr _ fun pl hp => sumN_congr _ fun k hk => by rw [hx.2 pl k (by omega) hk, hy.2 pl k (by omega) hk]
theorem flat_weights {K n : Nat} {ws : List (List Int)} (h : areW K n ws = true) : Flat K n ws.flatten (fun pl k => nth (nthR ws pl) k) := by
  obtain ⟨hl, hw⟩ := areW_ok h
  obtain ⟨h1, h2⟩ := flatten_nth (K := K) ws (fun pl hp => (hw pl (by omega)).1)
  exact ⟨by rw [h1, hl], fun pl k hp hk => h2 pl k (by omega) hk⟩
theorem dot_inv {K n : Nat} {ws y0 : List (List Int)} {y1 : List Int} (hK : K ≤ 8) (hn : n ≤ 4) (hs : StOk K n y0 y1) (hw : areW K n ws = true) : dotTo (bagsS y0 y1).flatten ws.flatten (bagsS y0 y1).flatten.length = invTo ws y0 y1 n n := by
  have hx := flat_start hs
  have hy := flat_weights hw
  have hl := hs.len
  have hlen : (n + 1) * K ≤ 40 := by have := Nat.mul_le_mul (show n + 1 ≤ 5 by omega) hK; omega
  have hat : ∀ q, q < (n + 1) * K → ∃ pl k, pl ≤ n ∧ k < K ∧ q = pl * K + k := fun q hq => by
    have hK0 : 0 < K := by rcases Nat.eq_zero_or_pos K with e | e; (subst e; simp at hq); exact e
    have hqd : q / K < n + 1 := by rw [Nat.div_lt_iff_lt_mul hK0]; exact hq
    exact ⟨q / K, q % K, by omega, Nat.mod_lt _ hK0, by have := Nat.div_add_mod q K; rw [Nat.mul_comm K] at this; omega⟩
  rw [hx.1, dotTo_eq (n := (n + 1) * K) (by omega) (fun q hq => ?_) (fun q hq => ?_) _ (Nat.le_refl _), flat_sum hx hy, invTo_eq hK hn hs hw n (Nat.le_refl _), sumN]
  · rw [Int.add_comm]
    have e1 : nthR (bagsS y0 y1) n = y1 := by
      rw [nthR_lt (by rw [bagsS_len]; omega)]
      simp [bagsS, hl]
    congr 1
    · show dotN (nthR (bagsS y0 y1) n) _ K = _
      rw [e1]
    · refine sumN_congr _ fun c hc => ?_
      have e2 : nthR (bagsS y0 y1) c = nthR y0 c := by
        rw [nthR_lt (by rw [bagsS_len]; omega), nthR_lt (by omega)]
        simp only [bagsS]
        rw [List.getElem_append_left (by omega)]
      show dotN (nthR (bagsS y0 y1) c) _ K = _
      rw [e2]
  · obtain ⟨pl, k, hp, hk, rfl⟩ := hat q hq
    rw [hx.2 pl k hp hk]
    have := bagsS_at hs hp hk
    dsimp only
    omega
  · obtain ⟨pl, k, hp, hk, rfl⟩ := hat q hq
    rw [hy.2 pl k hp hk]
    exact ((areW_ok hw).2 pl hp).2 k hk
end Go.Proofs.YtbnikblhnibgiaaGreatDoor

/- Invariants of a passing system: plain sums. No program is in sight. -/
namespace Go.Proofs.YtbnikblhnibgiaaGreatDoor
open Go.RowKit

def giveK (own up : Nat) (r : PR) (n : Int) (ins : Bool) (k : Nat) (xs : List Int) : List Int :=
  let xs1 := xs.set (own + k) (wrap64 (nth xs (own + k) + wrap64 (nth r.inn k * n)))
  if ins = true then xs1.set (up + k) (wrap64 (nth xs1 (up + k) + wrap64 (nth r.out k * n))) else xs1
def giveF (own up : Nat) (x2 : List Bool) (r : PR) (n : Int) (xs : List Int) : Nat → List Int
  | 0 => xs
  | k + 1 => giveK own up r n (insK x2 r k) k (giveF own up x2 r n xs k)
theorem giveK_len (own up : Nat) (r : PR) (n : Int) (ins : Bool) (k : Nat) (s : List Int) : (giveK own up r n ins k s).length = s.length := by
  unfold giveK; dsimp only; split <;> simp
theorem giveF_len (own up : Nat) (x2 : List Bool) (r : PR) (n : Int) (xs : List Int) : ∀ k, (giveF own up x2 r n xs k).length = xs.length
  | 0 => rfl
  | k + 1 => by rw [giveF, giveK_len, giveF_len]
/-- What a rule gives of kind k to a place. -/
def gives (x1 : List Int) (x2 : List Bool) (r : PR) (pl k : Nat) : Int := (if pl = cellN r then nth r.inn k else 0) + (if pl = upN x1 r ∧ insK x2 r k = true then nth r.out k else 0)
theorem wrap_add {x y : Int} (hy : 0 ≤ y ∧ y ≤ 1000) (hx : -100000000 ≤ x ∧ x ≤ 100000000) : wrap64 (x + wrap64 (y * 1)) = x + y := by
  rw [Int.mul_one]; unfold wrap64; omega
theorem giveF_at {K : Nat} {x1 : List Int} {x2 : List Bool} {x3 : List PR} (h : PsOk K x1 x2 x3) {i : Nat} (hi : i < x3.length) {f : Nat → Nat → Int} (hf : ∀ pl k, pl ≤ x1.length → k < K → -100000000 ≤ f pl k ∧ f pl k ≤ 1000) {xs : List Int} (hx : Flat K x1.length xs f) :
    ∀ j, j ≤ K → ∀ pl k, pl ≤ x1.length → k < K → nth (giveF (cellN (nthPR x3 i) * K) (upN x1 (nthPR x3 i) * K) x2 (nthPR x3 i) 1 xs j) (pl * K + k) = if k < j then f pl k + gives x1 x2 (nthPR x3 i) pl k else f pl k
  | 0, _, pl, k, hp, hk => by rw [giveF, if_neg (by omega)]; exact hx.2 pl k hp hk
  | j + 1, hj, pl, k, hp, hk => by
    have ih1 := giveF_at h hi hf hx j (by omega)
    obtain ⟨u1, u2, u3, _⟩ := h.upN hi
    have hlen := giveF_len (cellN (nthPR x3 i) * K) (upN x1 (nthPR x3 i) * K) x2 (nthPR x3 i) 1 xs j
    rw [hx.1] at hlen
    have ha := idx_lt (K := K) (k := j) (show cellN (nthPR x3 i) ≤ x1.length by omega) (by omega)
    have hb := idx_lt (K := K) (k := j) u2 (by omega)
    have hab : cellN (nthPR x3 i) * K + j ≠ upN x1 (nthPR x3 i) * K + j := fun e => u3 (idx_inj (by omega) (by omega) e).1.symm
    have va := ih1 (cellN (nthPR x3 i)) j (by omega) (by omega)
    have vb := ih1 (upN x1 (nthPR x3 i)) j u2 (by omega)
    rw [if_neg (by omega)] at va vb
    have wa : wrap64 (f (cellN (nthPR x3 i)) j + wrap64 (nth (nthPR x3 i).inn j * 1)) = f (cellN (nthPR x3 i)) j + gives x1 x2 (nthPR x3 i) (cellN (nthPR x3 i)) j := by
      rw [wrap_add (inn_bd h hi (by omega)) (by have := hf (cellN (nthPR x3 i)) j (by omega) (by omega); omega), gives, if_pos rfl, if_neg (fun e => u3 e.1.symm)]; omega
    have wb : insK x2 (nthPR x3 i) j = true → wrap64 (f (upN x1 (nthPR x3 i)) j + wrap64 (nth (nthPR x3 i).out j * 1)) = f (upN x1 (nthPR x3 i)) j + gives x1 x2 (nthPR x3 i) (upN x1 (nthPR x3 i)) j := fun hin => by
      rw [wrap_add (out_bd h hi (by omega)) (by have := hf (upN x1 (nthPR x3 i)) j u2 (by omega); omega), gives, if_neg u3, if_pos ⟨rfl, hin⟩]; omega
    have wc : ¬ insK x2 (nthPR x3 i) j = true → gives x1 x2 (nthPR x3 i) (upN x1 (nthPR x3 i)) j = 0 := fun hin => by
      rw [gives, if_neg u3, if_neg (fun e => hin e.2)]; rfl
    have wd : ∀ pl, pl ≠ cellN (nthPR x3 i) → pl ≠ upN x1 (nthPR x3 i) → gives x1 x2 (nthPR x3 i) pl j = 0 := fun pl e1 e2 => by
      rw [gives, if_neg e1, if_neg (fun e => e2 e.1)]; rfl
    rw [giveF]
    generalize giveF (cellN (nthPR x3 i) * K) (upN x1 (nthPR x3 i) * K) x2 (nthPR x3 i) 1 xs j = S at *
    have hx1 : ∀ q, nth (S.set (cellN (nthPR x3 i) * K + j) (wrap64 (nth S (cellN (nthPR x3 i) * K + j) + wrap64 (nth (nthPR x3 i).inn j * 1)))) q = if q = cellN (nthPR x3 i) * K + j then f (cellN (nthPR x3 i)) j + gives x1 x2 (nthPR x3 i) (cellN (nthPR x3 i)) j else nth S q := fun q => by
      rw [nth_set (by omega), va, wa]
    by_cases hin : insK x2 (nthPR x3 i) j = true
    · simp only [giveK, hin, if_true]
      rw [nth_set (by simp; omega), hx1 (upN x1 (nthPR x3 i) * K + j), if_neg (Ne.symm hab), vb, wb hin]
      by_cases e1 : pl * K + k = upN x1 (nthPR x3 i) * K + j
      · obtain ⟨rfl, rfl⟩ := idx_inj hk (by omega) e1
        rw [if_pos rfl, if_pos (by omega)]
      · rw [if_neg e1, hx1]
        by_cases e2 : pl * K + k = cellN (nthPR x3 i) * K + j
        · obtain ⟨rfl, rfl⟩ := idx_inj hk (by omega) e2
          rw [if_pos rfl, if_pos (by omega)]
        · rw [if_neg e2, ih1 pl k hp hk]
          by_cases e3 : k < j
          · rw [if_pos e3, if_pos (by omega)]
          · rw [if_neg e3]
            by_cases e4 : k = j
            · subst e4
              rw [if_pos (by omega), wd pl (fun e => e2 (by rw [e])) (fun e => e1 (by rw [e]))]; simp
            · rw [if_neg (by omega)]
    · simp only [giveK, hin, Bool.false_eq_true, if_false]
      rw [hx1]
      by_cases e2 : pl * K + k = cellN (nthPR x3 i) * K + j
      · obtain ⟨rfl, rfl⟩ := idx_inj hk (by omega) e2
        rw [if_pos rfl, if_pos (by omega)]
      · rw [if_neg e2, ih1 pl k hp hk]
        by_cases e3 : k < j
        · rw [if_pos e3, if_pos (by omega)]
        · rw [if_neg e3]
          by_cases e4 : k = j
          · subst e4
            rw [if_pos (by omega)]
            by_cases e5 : pl = upN x1 (nthPR x3 i)
            · subst e5; rw [wc hin]; simp
            · rw [wd pl (fun e => e2 (by rw [e])) e5]; simp
          · rw [if_neg (by omega)]
/-- What a rule changes in all, as the reference reckons. -/
def changeF (K : Nat) (x1 : List Int) (x2 : List Bool) (r : PR) : List Int :=
  giveF (cellN r * K) (upN x1 r * K) x2 r 1 (takeF (cellN r * K) (upN x1 r * K) x2 r 1 (List.replicate ((x1.length + 1) * K) 0) K).1 K
theorem flat_zero (K n : Nat) : Flat K n (List.replicate ((n + 1) * K) 0) (fun _ _ => 0) := by
  refine ⟨by simp, fun pl k hp hk => ?_⟩
  have := idx_lt hp hk
  simp [nth, this]
theorem changeF_flat {K : Nat} {x1 : List Int} {x2 : List Bool} {x3 : List PR} (h : PsOk K x1 x2 x3) {i : Nat} (hi : i < x3.length) :
    Flat K x1.length (changeF K x1 x2 (nthPR x3 i)) (fun pl k => gives x1 x2 (nthPR x3 i) pl k - needs x1 x2 (nthPR x3 i) pl k) := by
  have t1 := (takeF_all h hi (n := 1) (by omega) (f := fun _ _ => 0) (fun _ _ _ _ => by omega) (flat_zero K x1.length)).1
  have e : ∀ pl k, less x1 x2 (nthPR x3 i) 1 (fun _ _ => 0) pl k = - needs x1 x2 (nthPR x3 i) pl k := fun pl k => by rw [less]; omega
  refine ⟨by unfold changeF; rw [giveF_len, t1.1], fun pl k hp hk => ?_⟩
  unfold changeF
  rw [giveF_at h hi (f := less x1 x2 (nthPR x3 i) 1 (fun _ _ => 0)) (fun pl k hp hk => by rw [e]; have := needs_bd h hi pl hk; omega) t1 K (Nat.le_refl _) pl k hp hk, if_pos hk, e]
  dsimp only
  omega
def goesS (r : PR) : List Int := plusS r.out r.inn (-1)
def invRule (x1 : List Int) (ws : List (List Int)) (r : PR) : Bool := weighS (goesS r) (nthR ws (cellN r)) == weighS (goesS r) (nthR ws (upN x1 r))
/-- The weights of free objects in the surroundings are none. -/
def freeZero (x2 : List Bool) (l : List Int) : Bool := (List.range x2.length).all fun k => !(nthB x2 k && nth l k != 0)
theorem freeZero_true {x2 : List Bool} {l : List Int} (h : ∀ k, k < x2.length → (nthB x2 k && nth l k != 0) = false) : freeZero x2 l = true := by
  rw [freeZero, List.all_eq_true]; intro k hk; rw [h k (by simpa using hk)]; rfl
theorem freeZero_false {x2 : List Bool} {l : List Int} {k : Nat} (hk : k < x2.length) (h : (nthB x2 k && nth l k != 0) = true) : freeZero x2 l = false := by
  rw [freeZero, List.all_eq_false]; exact ⟨k, by simpa using hk, by rw [h]; simp⟩
theorem freeZero_at {x2 : List Bool} {l : List Int} (h : freeZero x2 l = true) {k : Nat} (hk : k < x2.length) (hf : nthB x2 k = true) : nth l k = 0 := by
  rw [freeZero, List.all_eq_true] at h
  have := h k (by simpa using hk)
  simpa [hf] using this
theorem change_dot {K : Nat} {x1 : List Int} {x2 : List Bool} {x3 : List PR} {ws : List (List Int)} (h : PsOk K x1 x2 x3) (hw : areW K x1.length ws = true) (hz : freeZero x2 (nthR ws x1.length) = true) {i : Nat} (hi : i < x3.length) :
    (dotTo (changeF K x1 x2 (nthPR x3 i)) ws.flatten (changeF K x1 x2 (nthPR x3 i)).length == 0) = invRule x1 ws (nthPR x3 i) := by
  obtain ⟨u1, u2, u3, _, _, u6⟩ := h.upN hi
  have hx := changeF_flat h hi
  have hy := flat_weights hw
  have h8 := h.k8
  have h4 := h.p4
  have hlen : (x1.length + 1) * K ≤ 40 := by have := Nat.mul_le_mul (show x1.length + 1 ≤ 5 by omega) h8; omega
  have hat : ∀ q, q < (x1.length + 1) * K → ∃ pl k, pl ≤ x1.length ∧ k < K ∧ q = pl * K + k := fun q hq => by
    have hK0 : 0 < K := by rcases Nat.eq_zero_or_pos K with e | e; (subst e; simp at hq); exact e
    have hqd : q / K < x1.length + 1 := by rw [Nat.div_lt_iff_lt_mul hK0]; exact hq
    exact ⟨q / K, q % K, by omega, Nat.mod_lt _ hK0, by have := Nat.div_add_mod q K; rw [Nat.mul_comm K] at this; omega⟩
  have hgb : ∀ pl k, k < K → 0 ≤ gives x1 x2 (nthPR x3 i) pl k ∧ gives x1 x2 (nthPR x3 i) pl k ≤ 2000 := fun pl k hk => by
    have h1 := inn_bd h hi hk
    have h2 := out_bd h hi hk
    unfold gives
    split <;> split <;> omega
  have hW := (areW_ok hw).2
  have hol := (h.out i hi).2
  have hil := (h.inn i hi).2
  have hgl : (goesS (nthPR x3 i)).length = K := by rw [goesS, plusS_len, hol]
  have hgn : ∀ k, k < K → nth (goesS (nthPR x3 i)) k = nth (nthPR x3 i).out k - nth (nthPR x3 i).inn k := fun k hk => by
    have := addW_neg (n := 1) (by omega) (inn_bd h hi hk) (show -100000000 ≤ nth (nthPR x3 i).out k ∧ nth (nthPR x3 i).out k ≤ 100000000 by have := out_bd h hi hk; omega)
    rw [goesS, plusS_nth (by omega), this]; omega
  have hwg : ∀ pl, pl ≤ x1.length → weighS (goesS (nthPR x3 i)) (nthR ws pl) = dotN (goesS (nthPR x3 i)) (nthR ws pl) K := fun pl hp => by
    rw [weigh_eq (by omega) (fun k hk => by rw [hgn k (by omega)]; have := out_bd h hi (k := k) (by omega); have := inn_bd h hi (k := k) (by omega); omega) (fun k hk => (hW pl hp).2 k (by omega)), hgl]
  have key : dotTo (changeF K x1 x2 (nthPR x3 i)) ws.flatten (changeF K x1 x2 (nthPR x3 i)).length = dotN (goesS (nthPR x3 i)) (nthR ws (upN x1 (nthPR x3 i))) K - dotN (goesS (nthPR x3 i)) (nthR ws (cellN (nthPR x3 i))) K := by
    rw [hx.1, dotTo_eq (n := (x1.length + 1) * K) (by omega) (fun q hq => ?_) (fun q hq => ?_) _ (Nat.le_refl _), flat_sum hx hy, sumN_two (a := upN x1 (nthPR x3 i)) (b := cellN (nthPR x3 i)) (by omega) (by omega) u3]
    · have e1 : sumN (fun k => (gives x1 x2 (nthPR x3 i) (upN x1 (nthPR x3 i)) k - needs x1 x2 (nthPR x3 i) (upN x1 (nthPR x3 i)) k) * nth (nthR ws (upN x1 (nthPR x3 i))) k) K = dotN (goesS (nthPR x3 i)) (nthR ws (upN x1 (nthPR x3 i))) K := sumN_congr _ fun k hk => by
        rw [hgn k hk, needs_up h hi, innS_ins h hi hk]
        by_cases hin : insK x2 (nthPR x3 i) k = true
        · rw [if_pos hin, gives, if_neg u3, if_pos ⟨rfl, hin⟩]; congr 1; omega
        · rw [if_neg hin, gives, if_neg u3, if_neg (fun e => hin e.2)]
          have hc : (nthPR x3 i).cell = 0 ∧ nthB x2 k = true := by
            have hc0 := h.cell i hi
            simp only [insK, Bool.or_eq_true, decide_eq_true_eq, Bool.not_eq_true', not_or, Bool.not_eq_false] at hin
            exact ⟨by omega, hin.2⟩
          rw [u6.1 hc.1, freeZero_at hz (by have := h.free; omega) hc.2]; simp
      have e2 : sumN (fun k => (gives x1 x2 (nthPR x3 i) (cellN (nthPR x3 i)) k - needs x1 x2 (nthPR x3 i) (cellN (nthPR x3 i)) k) * nth (nthR ws (cellN (nthPR x3 i))) k) K = - dotN (goesS (nthPR x3 i)) (nthR ws (cellN (nthPR x3 i))) K := by
        rw [dotN, ← sumN_neg]
        refine sumN_congr _ fun k hk => ?_
        rw [hgn k hk, needs_cell h hi, gives, if_pos rfl, if_neg (fun e => u3 e.1.symm), ← Int.neg_mul]
        congr 1; omega
      show sumN _ K + sumN _ K = _
      rw [e1, e2]; omega
    · intro pl hp n1 n2
      refine sumN_zero _ fun k hk => ?_
      rw [needs_else n2 n1, gives, if_neg n2, if_neg (fun e => n1 e.1)]; simp
    · obtain ⟨pl, k, hp, hk, rfl⟩ := hat q hq
      rw [hx.2 pl k hp hk]
      have := hgb pl k hk
      have := needs_bd h hi pl hk
      dsimp only
      omega
    · obtain ⟨pl, k, hp, hk, rfl⟩ := hat q hq
      rw [hy.2 pl k hp hk]
      exact (hW pl hp).2 k hk
  rw [key, invRule, hwg _ (by omega), hwg _ u2, Bool.eq_iff_iff]
  simp only [beq_iff_eq]
  omega
end Go.Proofs.YtbnikblhnibgiaaGreatDoor

/- The code of a passing system and a stock; the total of a stock. -/
namespace Go.Proofs.YtbnikblhnibgiaaGreatDoor
open Go.RowKit

def stCode (x0 : Int) (x1 : List Int) (x2 : List Bool) (x3 : List PR) (y0 : List (List Int)) (y1 : List Int) : Int := if okPass x0 x1 x2 x3 = true then (if okStockAll x0 x1 x2 x3 y0 y1 = true then 0 else 2) else 1
theorem stCode_ok {x0 : Int} {x1 : List Int} {x2 : List Bool} {x3 : List PR} {y0 : List (List Int)} {y1 : List Int} (h : stCode x0 x1 x2 x3 y0 y1 = 0) : okStockAll x0 x1 x2 x3 y0 y1 = true := by
  unfold stCode at h
  split at h
  · split at h
    · assumption
    · exact absurd h (by decide)
  · exact absurd h (by decide)
theorem stCode_bad {x0 : Int} {x1 : List Int} {x2 : List Bool} {x3 : List PR} {y0 : List (List Int)} {y1 : List Int} (h : okPass x0 x1 x2 x3 = false) : stCode x0 x1 x2 x3 y0 y1 = 1 := by simp [stCode, h]
theorem stCode_two {x0 : Int} {x1 : List Int} {x2 : List Bool} {x3 : List PR} {y0 : List (List Int)} {y1 : List Int} (h : okPass x0 x1 x2 x3 = true) (h2 : okStockAll x0 x1 x2 x3 y0 y1 = false) : stCode x0 x1 x2 x3 y0 y1 = 2 := by simp [stCode, h, h2]
theorem stCode_zero {x0 : Int} {x1 : List Int} {x2 : List Bool} {x3 : List PR} {y0 : List (List Int)} {y1 : List Int} (h : okPass x0 x1 x2 x3 = true) (h2 : okStockAll x0 x1 x2 x3 y0 y1 = true) : stCode x0 x1 x2 x3 y0 y1 = 0 := by simp [stCode, h, h2]
/-- The sum of the first bags. -/
def totTo (y1 : List Int) (y0 : List (List Int)) : Nat → List Int
  | 0 => y1
  | k + 1 => plusS (totTo y1 y0 k) (nthR y0 k) 1
theorem totTo_len (y1 : List Int) (y0 : List (List Int)) : ∀ k, (totTo y1 y0 k).length = y1.length
  | 0 => rfl
  | k + 1 => by rw [totTo, plusS_len, totTo_len]
def stockTotalS (x0 : Int) (x1 : List Int) (x2 : List Bool) (x3 : List PR) (y0 : List (List Int)) (y1 : List Int) : List Int × Int := if stCode x0 x1 x2 x3 y0 y1 = 0 then (totTo y1 y0 y0.length, 0) else ([], stCode x0 x1 x2 x3 y0 y1)
theorem stockTotal_cnt (x0 : Int) (x1 : List Int) (x2 : List Bool) (x3 : List PR) (y0 : List (List Int)) (y1 : List Int) : cnt (dI (stockTotalS x0 x1 x2 x3 y0 y1).1) ≤ 16777216 := by
  rw [cnt_dI]
  unfold stockTotalS
  split
  · rename_i h
    obtain ⟨K, _, hp, hs⟩ := stockAll_ok (stCode_ok h)
    have := hs.around.2
    have := hp.k8
    rw [totTo_len]; omega
  · simp
/-- One place of a sum. -/
theorem nth_ext {xs ys : List Int} (hl : xs.length = ys.length) (h : ∀ j, j < ys.length → nth xs j = nth ys j) : xs = ys := eq_of_nth hl (fun j hj => h j (by omega))
theorem addW_one {x y : Int} (hy : 0 ≤ y ∧ y ≤ 1000) : addW 1 x y = wrap64 (x + y) := by
  have : wrap64 (1 * y) = y := by unfold wrap64; omega
  rw [addW, this]
theorem Bld.ptr {E : Nat} {w : World} {B : Nat} {v : Value} {vs : List Value} (h : Bld E w B v vs) (h0 : 0 < vs.length) : ∃ g c, v = .slice (some ⟨g, 0, none⟩) vs.length c := by
  obtain ⟨_, h2⟩ := h
  rcases h2 with ⟨_, h3⟩ | ⟨g, cap, cur, h1, _⟩
  · omega
  · exact ⟨g, cap, h1⟩
/-- The first q from the new list, the others from the old. -/
def mixS (new old : List Int) (q : Nat) : List Int := (List.range old.length).map fun j => if j < q then nth new j else nth old j
theorem mix_len (new old : List Int) (q : Nat) : (mixS new old q).length = old.length := by simp [mixS]
theorem mix_at {new old : List Int} {q j : Nat} (h : j < old.length) : nth (mixS new old q) j = if j < q then nth new j else nth old j := by simp [mixS, nth, h]
theorem mix_zero (new old : List Int) : mixS new old 0 = old := nth_ext (mix_len _ _ _) fun j hj => by rw [mix_at hj, if_neg (by omega)]
theorem mix_full {new old : List Int} (h : new.length = old.length) : mixS new old old.length = new := nth_ext (by rw [mix_len, h]) fun j hj => by rw [mix_at (by omega), if_pos (by omega)]
theorem mix_set {new old : List Int} {q : Nat} (h : q < old.length) : (mixS new old q).set q (nth new q) = mixS new old (q + 1) := nth_ext (by simp [mix_len]) fun j hj => by
  rw [mix_len] at hj
  rw [nth_set (by rw [mix_len]; exact h), mix_at hj, mix_at hj]
  by_cases e : j = q
  · subst e; rw [if_pos rfl, if_pos (by omega)]
  · rw [if_neg e]
    by_cases e2 : j < q
    · rw [if_pos e2, if_pos (by omega)]
    · rw [if_neg e2, if_neg (by omega)]
end Go.Proofs.YtbnikblhnibgiaaGreatDoor

/- Contracts of the exported functions on bags (second part): weigh, join, meet, scale, add, take. -/
namespace Go.Proofs.YtbnikblhnibgiaaGreatDoor
open Go.RowKit
end Go.Proofs.YtbnikblhnibgiaaGreatDoor

/- Weights of places; the invariant's value: contracts. -/
namespace Go.Proofs.YtbnikblhnibgiaaGreatDoor
open Go.RowKit

def passInvS (x0 : Int) (x1 : List Int) (x2 : List Bool) (x3 : List PR) (y0 : List (List Int)) (y1 : List Int) (ws : List (List Int)) : Int × Int :=
  if stCode x0 x1 x2 x3 y0 y1 = 0 then (if areW x0 x1.length ws = true then (invTo ws y0 y1 x1.length x1.length, 0) else (0, 2)) else (0, stCode x0 x1 x2 x3 y0 y1)
theorem take_flat {xss : List (List Int)} {k : Nat} (h : k < xss.length) : (xss.take (k + 1)).flatten = (xss.take k).flatten ++ nthR xss k := by
  rw [List.take_succ_eq_append_getElem h, List.flatten_append, nthR_lt h]; simp
theorem takeflat_len {xss : List (List Int)} {K : Nat} (h : ∀ i, i < xss.length → (nthR xss i).length = K) : ∀ k, k ≤ xss.length → (xss.take k).flatten.length = k * K
  | 0, _ => by simp
  | k + 1, hk => by rw [take_flat (by omega), List.length_append, takeflat_len h k (by omega), h k (by omega), Nat.add_mul, Nat.one_mul]
theorem bags_flat (y0 : List (List Int)) (y1 : List Int) : (bagsS y0 y1).flatten = (y0.take y0.length).flatten ++ y1 := by simp [bagsS]
theorem small_mul {k K n : Nat} (h1 : k ≤ n) (h2 : K ≤ 8) : k * K ≤ 8 * n := by
  have := Nat.mul_le_mul h1 h2; rw [Nat.mul_comm n 8] at this; exact this
theorem SlI.addr0 {S : Nat → Prop} {w : World} {a : Option Addr} {xs : List Int} (h : SlI S w a xs) (h0 : 1 ≤ xs.length) : ∃ ad, a = some ad := h.addr h0
theorem wOk_len {x0 : Int} {l : List Int} (h : ¬ (l.length : Int) = x0) : wOk x0 l = false := by simp [wOk, h]
theorem wOk_eq {x0 : Int} {l : List Int} (h : (l.length : Int) = x0) : wOk x0 l = allB (fun w => inRg w (-1000) 1000) l := by simp [wOk, h]
end Go.Proofs.YtbnikblhnibgiaaGreatDoor

/- What rules take and give: the reference's functions. -/
namespace Go.Proofs.YtbnikblhnibgiaaGreatDoor
open Go.RowKit

/-- A call of which something is known, at a step of a region that draws its order. -/
theorem step_callG {P : Program} {ops : Array Oper} {o : Oper} {ac : Act} {w : World} {K : Act → World → Prop} {Q : Exit → Act → World → Prop} {X : Prop} (hgd : o.guard = none) (f : FuncId) (xs : Array Operand) (ts : Array TypeId)
    (ho : o.op = .call { callee := .value (.func f), args := xs, argTypes := ts }) (hrun : ∀ args w, (callFunc f args).run P w = .ok (.enter f args) w) (vs : Array Value) (hv : xs.map ac.eval = vs) {Post : Ending → World → Prop}
    (h : Calls P f vs w Post) (hK : ∀ e w', Post e w' → ∃ v, e = .returned v ∧ K (ac.put o.dst v) w') : if Region.wanted o (yielded ops ac.tmps) = true then Oper.wp P o ac w K Q else X := by
  have hw : Region.wanted o (yielded ops ac.tmps) = true := by simp [Region.wanted, hgd]
  rw [if_pos hw]
  unfold Oper.wp execOp
  simp only [ho, resolve, Act.eval, Deferred.ofValue, Sem.run_bind, Sem.run_pure, Result.andThen_ok, invoke, Array.append_empty]
  rw [show xs.map (Act.eval ac) = vs from hv]
  simp only [Array.empty_append, hrun, Oper.upon_enter]
  refine h.mono fun e w' hp => ?_
  obtain ⟨v, rfl, hk⟩ := hK e w' hp
  exact hk
theorem SlI.under {S : Nat → Prop} {w : World} {a : Option Addr} {xs : List Int} {B : Nat} (h : SlI S w a xs) (hB : w.heap.size ≤ B) : SlI (· < B) w a xs :=
  ⟨h.len, fun h0 => ⟨by have := World.block_lt_of_cell? w _ (h.cell 0 h0); simp only [adr] at this; omega, (h.ptr h0).2⟩, h.cell⟩
theorem SlB.under {S : Nat → Prop} {w : World} {a : Option Addr} {xs : List Bool} {B : Nat} (h : SlB S w a xs) (hB : w.heap.size ≤ B) : SlB (· < B) w a xs :=
  ⟨h.len, fun h0 => ⟨by have := World.block_lt_of_cell? w _ (h.cell 0 h0); simp only [adr] at this; omega, (h.ptr h0).2⟩, h.cell⟩
theorem SlI.low {w w' : World} {a : Option Addr} {xs : List Int} {B : Nat} (h : SlI (· < B) w a xs) (hb : Below B w w') : SlI (· < B) w' a xs :=
  ⟨h.len, h.ptr, fun i hi => (hb.cell (p := adr a i) (h.ptr (by omega)).1).trans (h.cell i hi)⟩
theorem SlB.low {w w' : World} {a : Option Addr} {xs : List Bool} {B : Nat} (h : SlB (· < B) w a xs) (hb : Below B w w') : SlB (· < B) w' a xs :=
  ⟨h.len, h.ptr, fun i hi => (hb.cell (p := adr a i) (h.ptr (by omega)).1).trans (h.cell i hi)⟩
theorem Bld.at_nth {E : Nat} {w : World} {B g n c : Nat} {xs : List Int} (h : Bld E w B (.slice (some ⟨g, 0, none⟩) n c) (xs.map (.int .i64))) {i : Nat} (hi : i < xs.length) : w.cell? ⟨g, i, none⟩ = some (.int .i64 (nth xs i)) := by
  refine h.cell ?_
  rw [List.getElem?_map, List.getElem?_eq_getElem hi, ← nth_lt hi]; rfl
theorem Bld.set_nth {E : Nat} {w : World} {B g n c : Nat} {xs : List Int} (h : Bld E w B (.slice (some ⟨g, 0, none⟩) n c) (xs.map (.int .i64))) (i : Nat) (x : Int) : Bld E (w.setCell ⟨g, i, none⟩ (.int .i64 x)) B (.slice (some ⟨g, 0, none⟩) n c) ((xs.set i x).map (.int .i64)) := by
  have := h.set i (.int .i64 x)
  rwa [← List.map_set] at this
def TakePost (B g n cg : Nat) (r : List Int × Bool) (e : Ending) (w' : World) : Prop := e = .returned (.bool r.2) ∧ Bld 2 w' B (.slice (some ⟨g, 0, none⟩) n cg) (r.1.map (.int .i64))
end Go.Proofs.YtbnikblhnibgiaaGreatDoor

/- Whether weights are an invariant: contracts. -/
namespace Go.Proofs.YtbnikblhnibgiaaGreatDoor
open Go.RowKit

def isPassInvS (x0 : Int) (x1 : List Int) (x2 : List Bool) (x3 : List PR) (ws : List (List Int)) : Bool × Int :=
  if okPass x0 x1 x2 x3 = true then (if areW x0 x1.length ws = true then (freeZero x2 (nthR ws x1.length) && allPR (invRule x1 ws) x3, 0) else (false, 2)) else (false, 1)
theorem isPassInv_bad {x0 : Int} {x1 : List Int} {x2 : List Bool} {x3 : List PR} {ws : List (List Int)} (h : okPass x0 x1 x2 x3 = false) : isPassInvS x0 x1 x2 x3 ws = (false, 1) := by simp [isPassInvS, h]
theorem isPassInv_two {x0 : Int} {x1 : List Int} {x2 : List Bool} {x3 : List PR} {ws : List (List Int)} (h : okPass x0 x1 x2 x3 = true) (h2 : areW x0 x1.length ws = false) : isPassInvS x0 x1 x2 x3 ws = (false, 2) := by simp [isPassInvS, h, h2]
theorem isPassInv_fine {x0 : Int} {x1 : List Int} {x2 : List Bool} {x3 : List PR} {ws : List (List Int)} (h : okPass x0 x1 x2 x3 = true) (h2 : areW x0 x1.length ws = true) : isPassInvS x0 x1 x2 x3 ws = (freeZero x2 (nthR ws x1.length) && allPR (invRule x1 ws) x3, 0) := by simp [isPassInvS, h, h2]
end Go.Proofs.YtbnikblhnibgiaaGreatDoor

/- Whether counts fit: the program's functions. -/
namespace Go.Proofs.YtbnikblhnibgiaaGreatDoor
open Go.RowKit

theorem SlI.other {w : World} {a : Option Addr} {xs : List Int} {g : Nat} (h : SlI Any w a xs) (hg : w.heap.size ≤ g) : SlI (· ≠ g) w a xs :=
  ⟨h.len, fun h0 => ⟨by have := World.block_lt_of_cell? w _ (h.cell 0 h0); simp only [adr] at this; omega, (h.ptr h0).2⟩, h.cell⟩
theorem SlI.agree {S : Nat → Prop} {w w' : World} {a : Option Addr} {xs : List Int} (h : SlI S w a xs) (ha : Agree S w w') : SlI S w' a xs := by
  obtain ⟨a', c', e, h'⟩ := Rd_I.1 (Rd.stable ha _ _ (Rd_I.2 ⟨a, 0, rfl, h⟩))
  cases e; exact h'
theorem SlI.set_other {w : World} {a : Option Addr} {xs : List Int} {g i : Nat} {u : Value} (h : SlI (· ≠ g) w a xs) : SlI (· ≠ g) (w.setCell ⟨g, i, none⟩ u) a xs :=
  h.agree (fun k hk => (Exc.setCell w ⟨g, i, none⟩ u).block k (by simp; exact hk))
/-- The bags are listed at g; the rows lie elsewhere. -/
structure Bgs (B : Nat) (wr : World) (g n c : Nat) (bags : List (List Int)) : Prop where
  len : bags.length = n
  row : ∃ vs : List Value, Bld 27 wr B (.slice (some ⟨g, 0, none⟩) n c) vs ∧ vs.length = n ∧ ∀ i, i < n → ∃ a cp, vs[i]? = some (.slice a (nthR bags i).length cp) ∧ SlI (· ≠ g) wr a (nthR bags i)
theorem Bgs.base {B : Nat} {wr : World} {g n c : Nat} {bags : List (List Int)} (h : Bgs B wr g n c bags) : B ≤ g ∧ g < wr.heap.size := by
  obtain ⟨vs, h1, _, _⟩ := h.row
  exact h1.base
theorem Bgs.cell {B : Nat} {wr : World} {g n c : Nat} {bags : List (List Int)} (h : Bgs B wr g n c bags) {i : Nat} (hi : i < n) : ∃ a cp, wr.cell? ⟨g, i, none⟩ = some (.slice a (nthR bags i).length cp) ∧ SlI (· ≠ g) wr a (nthR bags i) := by
  obtain ⟨vs, h1, _, h3⟩ := h.row
  obtain ⟨a, cp, h4, h5⟩ := h3 i hi
  exact ⟨a, cp, h1.cell h4, h5⟩
theorem Bgs.free {B : Nat} {wr : World} {g n c : Nat} {bags : List (List Int)} (h : Bgs B wr g n c bags) (i : Nat) : wr.frozen? ⟨g, i, none⟩ = false := by
  obtain ⟨vs, h1, _, _⟩ := h.row
  exact h1.free i
theorem Bgs.later {B : Nat} {wr w' : World} {g n c : Nat} {bags : List (List Int)} (h : Bgs B wr g n c bags) (hb : Below wr.heap.size wr w') : Bgs B w' g n c bags := by
  obtain ⟨vs, h1, h2, h3⟩ := h.row
  refine ⟨h.len, vs, h1.below hb, h2, fun i hi => ?_⟩
  obtain ⟨a, cp, h4, h5⟩ := h3 i hi
  exact ⟨a, cp, h4, h5.below hb⟩
theorem Bgs.set {B : Nat} {wr : World} {g n c : Nat} {bags : List (List Int)} (h : Bgs B wr g n c bags) {i : Nat} (hi : i < n) {a : Option Addr} {cp : Nat} {ys : List Int} (hy : SlI (· ≠ g) wr a ys) :
    Bgs B (wr.setCell ⟨g, i, none⟩ (.slice a ys.length cp)) g n c (bags.set i ys) := by
  obtain ⟨vs, h1, h2, h3⟩ := h.row
  have hl := h.len
  refine ⟨by simpa using hl, vs.set i (.slice a ys.length cp), h1.set i _, by simpa using h2, fun j hj => ?_⟩
  rw [nthR_set (by omega)]
  by_cases e : j = i
  · subst e
    rw [if_pos rfl]
    exact ⟨a, cp, by simp [h2, hj], hy.set_other⟩
  · rw [if_neg e]
    obtain ⟨a', cp', h4, h5⟩ := h3 j hj
    exact ⟨a', cp', by rw [List.getElem?_set_ne (by omega)]; exact h4, h5.set_other⟩
theorem Bgs.slII {B : Nat} {wr : World} {g n c : Nat} {bags : List (List Int)} (h : Bgs B wr g n c bags) (hn : n ≤ maxLen) : SlII Any wr (some ⟨g, 0, none⟩) bags := by
  have hl := h.len
  refine ⟨by omega, fun _ => ⟨trivial, g, 0, rfl⟩, fun i hi => ?_⟩
  obtain ⟨a, cp, h4, h5⟩ := h.cell (i := i) (by omega)
  exact ⟨a, cp, by simpa [adr, blk, ofs] using h4, h5.any⟩
/-- 'append(v, xs...)' of values. -/
theorem app_vals {P : Program} {ops : Array Oper} {rest : List Oper} {o : Oper} {ac : Act} {Q : Exit → Act → World → Prop} {w : World} (hgd : o.guard = none) (s x : Operand) (T : TypeId)
    (ho : o.op = .call { callee := .builtin .append, args := #[s, x], argTypes := #[T, T] }) {E bytes : Nat} {z : Value} (tab : Tab P T E z 1 bytes) (hzs : z.cells.size = 1) (hby : bytes ≤ 1024)
    (B : Nat) (v : Value) (vs : List Value) (hs : ac.eval s = v) (hown : Bld E w B v vs) (ad : Addr) (n c : Nat) (ys : List Value) (hx : ac.eval x = .slice (some ad) n c) (hn : ys.length = n) (hc : ∀ j u, ys[j]? = some u → w.cell? (ad.add j) = some u) (h1 : ∀ u ∈ ys, u.oneCell' = true) (hlen : vs.length + n < 4294967296) (hB : B ≤ w.heap.size)
    (K : ∀ v' w', Bld E w' B v' (vs ++ ys) → Below B w w' → wpList P ops Q rest (ac.put o.dst v') w') : wpList P ops Q (o :: rest) ac w := by
  obtain ⟨i0, hi, hz0, hz1, hz2⟩ := info_parts tab.info
  have hlt := hown.lt
  refine wpList_append_own w hgd s x T ho B E i0 z 1 bytes tab.under hi hz0 hz1 hz2 hzs (by decide) v vs.length vs hs hown ad n c ys hx (by rw [hn]; simp) hc h1 (by unfold maxLen; omega) (by
    have : (vs.length + n) * bytes ≤ 4294967296 * 1024 := Nat.mul_le_mul (by omega) hby
    omega) hB ?_
  intro v' w' h2 h3 _
  refine K v' w' (by simpa [Bld, hn] using h2) ?_
  exact (Below.refl B w).grown h3 hB fun k hk => (hlt k hk).1
set_option maxHeartbeats 400000 in
set_option maxRecDepth 100000 in
theorem cloneB_c (S : Nat → Prop) (ad : Addr) (c : Nat) (xs : List Int) (w : World) (hx : SlI S w (some ad) xs) (l1 : xs.length < 4294967296) :
    Calls Tryz.prog 40 #[.slice (some ad) xs.length c] w (RetB 2 w xs) := by
  have hbl := Bld.empty 2 w w.heap.size (Nat.le_refl _)
  have hx' := hx.below (below_alloc w (.cells #[] 2))
  have heq := fun (w : World) => run_eql_some_nil (P := Tryz.prog) w ad xs.length c tabI.under
  go_enter Tryz.func40, Tryz.ntmps40
  go_wp2_with (at_builtin; refine app_many rfl _ _ 27 rfl tabI rfl (by decide) w.heap.size _ [] rfl hbl S (some ad) c xs rfl hx' ⟨ad, rfl⟩ (by simpa using l1) (by simp) ?_)
  intro v' w1 hbl1 hb1
  replace hbl1 : Bld 2 w1 w.heap.size v' (xs.map (.int .i64)) := hbl1
  go_wp2
  go_ret
  exact ⟨v', rfl, (below_alloc _ _).trans hb1, hbl1⟩
/-- The first k objects without those that are free. -/
def bndS (free : List Bool) (xs : List Int) (k : Nat) : List Int := mixS (boundS free xs) xs k
theorem bndS_len (free : List Bool) (xs : List Int) (k : Nat) : (bndS free xs k).length = xs.length := mix_len _ _ _
theorem bndS_yes {free : List Bool} {xs : List Int} {k : Nat} (hk : k < xs.length) (h : nthB free k = true) : (bndS free xs k).set k 0 = bndS free xs (k + 1) := by
  have := mix_set (new := boundS free xs) (old := xs) hk
  rw [boundS_at hk, if_pos h] at this
  exact this
theorem bndS_no {free : List Bool} {xs : List Int} {k : Nat} (hk : k < xs.length) (h : nthB free k = false) : bndS free xs k = bndS free xs (k + 1) := nth_ext (by rw [bndS_len, bndS_len]) fun j hj => by
  rw [bndS_len] at hj
  unfold bndS
  rw [mix_at hj, mix_at hj]
  by_cases e : j = k
  · subst e; rw [if_neg (by omega), if_pos (by omega), boundS_at hk, h]; simp
  · by_cases e2 : j < k
    · rw [if_pos e2, if_pos (by omega)]
    · rw [if_neg e2, if_neg (by omega)]
end Go.Proofs.YtbnikblhnibgiaaGreatDoor
