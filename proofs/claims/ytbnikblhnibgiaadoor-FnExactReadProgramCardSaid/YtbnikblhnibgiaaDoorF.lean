/- The frame of a law's statement: if the call returns true and leaves the old memory alone, the statement holds. -/
import Derived.Test.YtbnikblhnibgiaaDoorRows
import Derived.Test.YtbnikblhnibgiaaDoorG
import Derived.ProofKit
import Derived.OpenShut
namespace Go.Proofs.YtbnikblhnibgiaaDoor
open Go.ChangeShapes Go.WideShapes Go.ChangeAt Go.RowKit

theorem own : ownKnob Tryd.prog.godebug = none := by kernel_rfl
theorem laidOut : laidOutB Tryd.prog = true := by kernel_rfl

theorem trodAll_below {H : Type} {enc : TypeId × Value → H} {P : Program} (hl : laidOutB P = true) {W W' : World} (hb : Below W.heap.size W W') :
    ∀ (ts : List TypeId) (vs : List Value) (ds : List (DataW H)) (ps : List MemPlace), ts.all (fun t => P.readableRec t && decide (t < P.types.size)) = true →
      DataW.TrodAll enc P W 0 (fun _ => true) true ts vs ds ps → (∀ x ∈ ps, x.block < W.heap.size) → DataW.TrodAll enc P W' 0 (fun b => decide (b < W.heap.size)) true ts vs ds ps
  | [], vs, ds, ps, _, h, _ => by
    obtain ⟨rfl, rfl, rfl⟩ := trodAll_nil h
    exact trodAll_mk0
  | t :: ts, vs, ds, ps, ht, h, hlt => by
    obtain ⟨v, vs', d, ds', p, q, rfl, rfl, rfl, h1, h2⟩ := trodAll_cons h
    simp only [List.all_cons, Bool.and_eq_true, decide_eq_true_eq] at ht
    exact trodAll_cons_mk (Below.trod hl ht.1.1 ht.1.2 h1 hb (fun x hx => hlt x (List.mem_append_left _ hx)))
      (trodAll_below hl hb ts vs' ds' q (by simpa using ht.2) h2 (fun x hx => hlt x (List.mem_append_right _ hx)))

set_option maxRecDepth 100000 in
theorem lift {F : FuncId} {fn : Func} {s : ChangeSpec} {tb : TypeId} (hfn : Tryd.checked.prog.funcs[F]? = some fn) (noInit : Tryd.checked.prog.inits.idxOf? F = none)
    (hv : s.vars = []) (hres : fn.resultTypes = #[tb]) (htb : Tryd.prog.underlying tb = some .bool)
    (hrd : fn.params.toList.all (fun t => Tryd.prog.readableRec t && decide (t < Tryd.prog.types.size)) = true)
    {H : Type} {enc : TypeId × Value → H} (hs : ∀ ds, ds.length = fn.params.toList.length → s.fn H (ds ++ []) = { results := [.lit (.bool true)], args := ds })
    {os : Os} (started : os.Started)
    (witness : ∃ (w : World) (tape : Tape) (i : Input), w.os = os ∧ (w.forCall tape i).Shaped Tryd.checked.prog ∧ i.vars = [] ∧ Input.okWide Tryd.checked.prog (w.forCall tape i) .any w.heap.size F i ∧
      s.pre6 enc Tryd.checked.prog fn [] false (w.forCall tape i).memory i.args ∧ ({} : Assume).holds Tryd.checked.prog (lone (Frame.enter Tryd.checked.prog F i.args .normal) [] (w.forCall tape i)))
    (walk : ∀ (W : World) (base : Nat) (args : Array Value) (ds : List (DataW H)) (p : List MemPlace), (∀ (j : Nat) t v, fn.params[j]? = some t → args[j]? = some v → Value.okWide Tryd.prog W .any base t v) → DataW.TrodAll enc Tryd.prog W 0 (fun _ => true) true fn.params.toList args.toList ds p →
      Calls Tryd.prog F args W fun e w' => e = .returned (.bool true) ∧ Below W.heap.size W w') :
    ReturnsInHanded {} Tryd.checked os F .any (s.pre6 enc Tryd.prog fn [] false) (s.post enc Tryd.prog fn false true false false) := by
  refine returnsInHanded_of_change (C := Tryd.checked) own started noInit hfn witness ?_
  intro W base args ds gs before hval0 hW hcnd _
  have hW' := hW
  obtain ⟨p, q, hA, hV, hp, hfz, hnd⟩ := hW
  rw [hv] at hV
  obtain ⟨rfl, rfl⟩ := trodVars_none hV
  rw [List.append_nil] at hp
  subst hp
  have hval : ∀ (j : Nat) t v, fn.params[j]? = some t → args[j]? = some v → Value.okWide Tryd.prog W .any base t v := hval0
  refine (walk W base args ds _ hval hA).mono fun e W' ⟨he, hb⟩ => ?_
  subst he
  have hlen : ∀ (ts : List TypeId) (vs : List Value) (ds : List (DataW H)) (ps : List MemPlace), DataW.TrodAll enc Tryd.prog W 0 (fun _ => true) true ts vs ds ps → ds.length = ts.length := by
    intro ts
    induction ts with
    | nil => intro vs ds ps h; obtain ⟨_, rfl, _⟩ := trodAll_nil h; rfl
    | cons t ts ih => intro vs ds ps h; obtain ⟨_, _, _, _, _, _, rfl, rfl, rfl, _, h2⟩ := trodAll_cons h; simp [ih _ _ _ h2]
  have e1 := hs ds (hlen _ _ _ _ hA)
  refine ⟨_, rfl, ds, [], before, [], before, [], hW', ?_, ?_, ?_, hb.frame _, fun h => by cases h⟩
  · rw [e1, hres]; exact trodAll_mk1 (shut_bool htb true)
  · rw [e1]; exact trodAll_below laidOut hb _ _ _ _ hrd hA (fun x hx => by simpa using hW'.lt x hx)
  · rw [e1, hv]; rfl

/-- A parameter that is a list of numbers. -/
theorem open_I {H : Type} {enc : TypeId × Value → H} {P : Program} {W : World} {T E : TypeId} (hT : P.underlying T = some (.slice E)) (hE : P.underlying E = some (.int .i64)) (hc : P.cellsOf E = 1) {v : Value} {d : DataW H} {p : List MemPlace} {base : Nat}
    (hval : Value.okWide P W .any base T v) (h : DataW.Trod enc P W 0 (fun _ => true) true T v d p) : ∃ a n c, v = .slice a n c ∧ ∃ xs : List Int, xs.length = n ∧ SlI (· < W.heap.size) W a xs := by
  obtain ⟨a, n, c, rfl⟩ := okWide_slice hT hval
  refine ⟨a, n, c, rfl, ?_⟩
  obtain ⟨fuel, hf⟩ := h
  rcases open_ints hT hE hc hf with ⟨hcs, _⟩ | ⟨a', len, cap, zs, hcs, _, hl, hm, hz, _, hcell, _⟩
  · have e : a = none ∧ n = 0 ∧ c = 0 := by simpa [Value.cells] using hcs
    obtain ⟨rfl, rfl, rfl⟩ := e
    exact ⟨[], rfl, by simp, by simp, fun i hi => absurd hi (by simp)⟩
  · have e : a = some a' ∧ n = len ∧ c = cap := by simpa [Value.cells] using hcs
    obtain ⟨rfl, rfl, rfl⟩ := e
    simp only [if_true] at hz
    have hcell' : ∀ i, i < n → W.cell? (a'.add i) = some (.int .i64 (zs.getD i 0)) := fun i hi => hcell i (by omega)
    have hspot : 0 < n → a'.spot = none := fun h0 => by
      have := hcell' 0 h0
      rw [show a'.add 0 = a' from rfl] at this
      cases hs : a'.spot with
      | none => rfl
      | some x =>
        simp only [World.cell?] at this
        split at this
        · simp [hs] at this
        · cases this
    refine ⟨zs.take n, by simp; omega, by simp; omega, fun h0 => ?_, fun i hi => ?_⟩
    · have h0' : 0 < n := by simp at h0; omega
      have hb := World.block_lt_of_cell? W _ (hcell' 0 h0')
      rw [show a'.add 0 = a' from rfl] at hb
      obtain ⟨b, o, sp⟩ := a'
      have := hspot h0'
      simp only at this
      subst this
      exact ⟨hb, b, o, rfl⟩
    · have hi' : i < n := by simp at hi; omega
      have e : adr (some a') i = a'.add i := by
        obtain ⟨b, o, sp⟩ := a'
        have := hspot (by omega)
        simp only at this
        subst this
        rw [Addr.add_lit]; rfl
      rw [e, hcell' i hi']
      simp [nth, hi', List.getD]
end Go.Proofs.YtbnikblhnibgiaaDoor
