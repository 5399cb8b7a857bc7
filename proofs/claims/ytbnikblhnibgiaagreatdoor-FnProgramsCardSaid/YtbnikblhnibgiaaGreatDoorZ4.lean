/- Configs that follow: what they are, and what is looked at. -/
import Derived.Test.YtbnikblhnibgiaaGreatDoorZ1
import Derived.Test.YtbnikblhnibgiaaGreatDoorZ2
import Derived.Test.YtbnikblhnibgiaaGreatDoorZ3
namespace Go.Proofs.YtbnikblhnibgiaaGreatDoor
open Go.RowKit

def haltS (os : List Ord) (at_ : Int) : Bool := (at_ == (os.length : Int)) || ((nthO os at_.toNat).op == 3)
def regsOk (R : Int) (regs : List Int) : Bool := ((regs.length : Int) == R) && allB cntOk regs
def confOk (R : Int) (n : Nat) (pc : Int) (regs : List Int) : Bool := inRg pc 0 n && regsOk R regs
/-- The configs that can follow by an order, and a code. -/
def nextO (o : Ord) (regs : List Int) : List Cfg × Int :=
  if o.op = 2 then (if 0 < nth regs o.reg.toNat then ([⟨o.to, regs.set o.reg.toNat (nth regs o.reg.toNat - 1)⟩], 0) else ([⟨o.els, regs⟩], 0))
  else if nth regs o.reg.toNat = 1000 then ([], 3)
  else (if o.els = o.to then [⟨o.to, regs.set o.reg.toNat (nth regs o.reg.toNat + 1)⟩] else [⟨o.to, regs.set o.reg.toNat (nth regs o.reg.toNat + 1)⟩, ⟨o.els, regs.set o.reg.toNat (nth regs o.reg.toNat + 1)⟩], 0)
def nextS (os : List Ord) (pc : Int) (regs : List Int) : List Cfg × Int := if haltS os pc = true then ([], 0) else nextO (nthO os pc.toNat) regs
def nextConfigsS (R : Int) (os : List Ord) (pc : Int) (regs : List Int) : List Cfg × Int :=
  if validProgS R os = true then (if confOk R os.length pc regs = true then nextS os pc regs else ([], 2)) else ([], 1)
theorem regsOk_ok {R : Int} {regs : List Int} (h : regsOk R regs = true) : (regs.length : Int) = R ∧ small regs := by
  simp only [regsOk, Bool.and_eq_true] at h
  refine ⟨by simpa using h.1, fun j hj => ?_⟩
  have := allB_at h.2 hj
  simpa [cntOk, inRg] using this
theorem areRegs1_c (n : Int) (w : World) : Calls Tryz.prog 77 #[.int .i64 n] w (RetP w (.bool (!cntOk n))) := by
  go_enter Tryz.func77, Tryz.ntmps77
  go_wp2_with fail
  refine (inRange_c _ _ _ _).mono ?_
  rintro e w' ⟨rfl, rfl⟩
  go_wp2
  go_ret
  exact ⟨rfl, rfl⟩
set_option maxHeartbeats 1000000 in
theorem areRegs_c (R : Int) (vo : Value) (a : Option Addr) (c : Nat) (regs : List Int) (w : World) (hx : SlI Any w a regs) :
    Calls Tryz.prog 53 #[.agg #[.int .i64 R, vo], .slice a regs.length c] w (RetV w (.bool (regsOk R regs))) := by
  have hb0 := below_alloc w (.cells #[.int .i64 R, vo] 26)
  have l1 := hx.len
  have hb : ∀ x : Wd (w.alloc (.cells #[.int .i64 R, vo] 26)), Below w.heap.size w (wat x) := fun x => hb0.trans ((wat_below x).mono (by simp))
  have hcf : ∀ x : Wd (w.alloc (.cells #[.int .i64 R, vo] 26)), Calls Tryz.prog 76 #[.slice a regs.length c, .func (.func 77) #[] #[]] (wat x) (RetP (wat x) (.bool (!allB cntOk regs))) := fun x => by
    have := containsFuncI_c 77 #[] (fun n => !cntOk n) (callFunc_run Tryz.func77 (by kernel_rfl) rfl) Any a c regs (wat x) (hx.below (hb x)) (Lib.hid fun n => areRegs1_c n (wat x))
    rwa [anyB_not] at this
  have HS := Lib.hid (fun x : Wd (w.alloc (.cells #[.int .i64 R, vo] 26)) => callsP (size_int_c a regs.length c (wat x) l1))
  have HC := Lib.hid (fun x : Wd (w.alloc (.cells #[.int .i64 R, vo] 26)) => callsP (hcf x))
  have q0 := wat_cell (show (w.alloc (.cells #[.int .i64 R, vo] 26)).cell? ⟨w.heap.size, 0, none⟩ = some (.int .i64 R) by simp [go_sem])
  have HB := Lib.hid hb
  clear hb hcf hb0 hx l1
  cases h1 : ((regs.length : Int) == R)
  · have e : regsOk R regs = false := by simp [regsOk, h1]
    rw [e]
    clear e
    go_enter Tryz.func53, Tryz.ntmps53
    go_wp2
    refine wp_quiet_wd (by kernel_rfl) (by kernel_rfl) ?_
    repeat (go_big_quiet_step (first | with_reducible exact wdV (HS.out _) | with_reducible exact wdV (HC.out _)))
    refine wpQuiet_nil ?_
    rintro _ ⟨wq, rfl⟩
    go_wp2
    go_ret
    exact ⟨rfl, HB.out wq⟩
  · have e : regsOk R regs = allB cntOk regs := by simp [regsOk, h1]
    rw [e]
    clear e
    go_enter Tryz.func53, Tryz.ntmps53
    go_wp2
    refine wp_quiet_wd (by kernel_rfl) (by kernel_rfl) ?_
    repeat (go_big_quiet_step (first | with_reducible exact wdV (HS.out _) | with_reducible exact wdV (HC.out _)))
    refine wpQuiet_nil ?_
    rintro _ ⟨wq, rfl⟩
    go_wp2
    go_ret
    exact ⟨ret_bool (by simp), HB.out wq⟩
set_option maxHeartbeats 2000000 in
theorem isConfig_c (R : Int) (ao : Option Addr) (no co : Nat) (hno : no ≤ maxLen) (pc : Int) (a : Option Addr) (c : Nat) (regs : List Int) (w : World) (hx : SlI Any w a regs) :
    Calls Tryz.prog 36 #[.agg #[.int .i64 R, .slice ao no co], .agg #[.int .i64 pc, .slice a regs.length c]] w (RetV w (.bool (confOk R no pc regs))) := by
  have hb0 : Below w.heap.size w ((w.alloc (.cells #[.int .i64 R, .slice ao no co] 26)).alloc (.cells #[.int .i64 pc, .slice a regs.length c] 35)) := ((Below.refl _ _).alloc (Nat.le_refl _) _).alloc (by simp) _
  have hb : ∀ x : Wd ((w.alloc (.cells #[.int .i64 R, .slice ao no co] 26)).alloc (.cells #[.int .i64 pc, .slice a regs.length c] 35)), Below w.heap.size w (wat x) := fun x => hb0.trans ((wat_below x).mono (by simp <;> omega))
  have HS := Lib.hid (fun x : Wd ((w.alloc (.cells #[.int .i64 R, .slice ao no co] 26)).alloc (.cells #[.int .i64 pc, .slice a regs.length c] 35)) => callsP (size_ord_c ao no co (wat x) hno))
  have HI := Lib.hid (fun x : Wd ((w.alloc (.cells #[.int .i64 R, .slice ao no co] 26)).alloc (.cells #[.int .i64 pc, .slice a regs.length c] 35)) => callsP (inRange_c pc 0 no (wat x)))
  have HA := Lib.hid (fun x : Wd ((w.alloc (.cells #[.int .i64 R, .slice ao no co] 26)).alloc (.cells #[.int .i64 pc, .slice a regs.length c] 35)) => areRegs_c R (.slice ao no co) a c regs (wat x) (hx.below (hb x)))
  have q0 := wat_cell (show ((w.alloc (.cells #[.int .i64 R, .slice ao no co] 26)).alloc (.cells #[.int .i64 pc, .slice a regs.length c] 35)).cell? ⟨w.heap.size, 0, none⟩ = some (.int .i64 R) by simp [go_sem])
  have q1 := wat_cell (show ((w.alloc (.cells #[.int .i64 R, .slice ao no co] 26)).alloc (.cells #[.int .i64 pc, .slice a regs.length c] 35)).cell? ⟨w.heap.size, 1, none⟩ = some (.slice ao no co) by simp [go_sem])
  have q2 := wat_cell (show ((w.alloc (.cells #[.int .i64 R, .slice ao no co] 26)).alloc (.cells #[.int .i64 pc, .slice a regs.length c] 35)).cell? ⟨w.heap.size + 1, 0, none⟩ = some (.int .i64 pc) by simp [go_sem])
  have q3 := wat_cell (show ((w.alloc (.cells #[.int .i64 R, .slice ao no co] 26)).alloc (.cells #[.int .i64 pc, .slice a regs.length c] 35)).cell? ⟨w.heap.size + 1, 1, none⟩ = some (.slice a regs.length c) by simp [go_sem])
  have HB := Lib.hid hb
  clear hb hb0 hx
  cases h1 : inRg pc 0 no
  · have e : confOk R no pc regs = false := by simp [confOk, h1]
    rw [e]
    rw [h1] at HI
    clear e h1
    go_enter Tryz.func36, Tryz.ntmps36
    go_wp2
    refine wp_quiet_wd (by kernel_rfl) (by kernel_rfl) ?_
    repeat (go_big_quiet_step (first | with_reducible exact wdV (HS.out _) | with_reducible exact wdV (HI.out _) | with_reducible exact wdV (HA.out _)))
    refine wpQuiet_nil ?_
    rintro _ ⟨wq, rfl⟩
    go_wp2
    go_ret
    exact ⟨rfl, HB.out wq⟩
  · have e : confOk R no pc regs = regsOk R regs := by simp [confOk, h1]
    rw [e]
    rw [h1] at HI
    clear e h1
    go_enter Tryz.func36, Tryz.ntmps36
    go_wp2
    refine wp_quiet_wd (by kernel_rfl) (by kernel_rfl) ?_
    repeat (go_big_quiet_step (first | with_reducible exact wdV (HS.out _) | with_reducible exact wdV (HI.out _) | with_reducible exact wdV (HA.out _)))
    refine wpQuiet_nil ?_
    rintro _ ⟨wq, rfl⟩
    go_wp2
    go_ret
    exact ⟨rfl, HB.out wq⟩
set_option maxHeartbeats 2000000 in
theorem halts_c (R : Int) (ao : Option Addr) (co : Nat) (os : List Ord) (pc : Int) (vr : Value) (w : World) (ho : SlO Any w ao os) (h0 : 0 ≤ pc) (h1 : pc ≤ os.length) :
    Calls Tryz.prog 43 #[.agg #[.int .i64 R, .slice ao os.length co], .agg #[.int .i64 pc, vr]] w (RetV w (.bool (haltS os pc))) := by
  have hb0 : Below w.heap.size w ((w.alloc (.cells #[.int .i64 R, .slice ao os.length co] 26)).alloc (.cells #[.int .i64 pc, vr] 35)) := ((Below.refl _ _).alloc (Nat.le_refl _) _).alloc (by simp) _
  have hb : ∀ x : Wd ((w.alloc (.cells #[.int .i64 R, .slice ao os.length co] 26)).alloc (.cells #[.int .i64 pc, vr] 35)), Below w.heap.size w (wat x) := fun x => hb0.trans ((wat_below x).mono (by simp <;> omega))
  have l1 := ho.len
  have HS := Lib.hid (fun x : Wd ((w.alloc (.cells #[.int .i64 R, .slice ao os.length co] 26)).alloc (.cells #[.int .i64 pc, vr] 35)) => callsP (size_ord_c ao os.length co (wat x) l1))
  have q1 := wat_cell (show ((w.alloc (.cells #[.int .i64 R, .slice ao os.length co] 26)).alloc (.cells #[.int .i64 pc, vr] 35)).cell? ⟨w.heap.size, 1, none⟩ = some (.slice ao os.length co) by simp [go_sem])
  have q2 := wat_cell (show ((w.alloc (.cells #[.int .i64 R, .slice ao os.length co] 26)).alloc (.cells #[.int .i64 pc, vr] 35)).cell? ⟨w.heap.size + 1, 0, none⟩ = some (.int .i64 pc) by simp [go_sem])
  have i1 := ixO ho co
  unfold maxLen at l1
  have HB := Lib.hid hb
  have HO := Lib.hid ho
  clear hb ho
  cases e1 : (pc == (os.length : Int))
  · have hlt : pc < os.length := by simp at e1; omega
    have e : haltS os pc = ((nthO os pc.toNat).op == 3) := by simp [haltS, e1]
    rw [e]
    have i2 := fun w' => i1 pc w' h0 hlt
    have g0 := wat_cell (show ((w.alloc (.cells #[.int .i64 R, .slice ao os.length co] 26)).alloc (.cells #[.int .i64 pc, vr] 35)).cell? (adr ao (pc.toNat * 4)) = some (.int .i64 (nthO os pc.toNat).op) from (hb0.cell (World.block_lt_of_cell? w _ (HO.out.c0 pc.toNat (by omega)))).trans (HO.out.c0 pc.toNat (by omega)))
    clear e hb0
    go_enter Tryz.func43, Tryz.ntmps43
    go_wp2
    refine wp_quiet_wd (by kernel_rfl) (by kernel_rfl) ?_
    repeat (go_big_quiet_step (with_reducible exact wdV (HS.out _)))
    refine wpQuiet_nil ?_
    rintro _ ⟨wq, rfl⟩
    go_wp2
    go_ret
    exact ⟨rfl, HB.out wq⟩
  · have e : haltS os pc = true := by simp [haltS, e1]
    rw [e]
    clear e hb0
    go_enter Tryz.func43, Tryz.ntmps43
    go_wp2
    refine wp_quiet_wd (by kernel_rfl) (by kernel_rfl) ?_
    repeat (go_big_quiet_step (with_reducible exact wdV (HS.out _)))
    refine wpQuiet_nil ?_
    rintro _ ⟨wq, rfl⟩
    go_wp2
    go_ret
    exact ⟨rfl, HB.out wq⟩

/- Configs that follow: the program's functions. -/
/-- A number in a list of one's own is replaced. -/
theorem OwI.set {w : World} {a : Option Addr} {xs : List Int} {F : List Nat} (h : OwI w a xs F) {i : Nat} (hi : i < xs.length) (x : Int) : OwI (w.setCell (adr a i) (.int .i64 x)) a (xs.set i x) F := by
  refine ⟨by simpa using h.len, ?_, fun j hj => ?_, fun j hj => by rw [World.frozen?_setCell]; exact h.free j (by simpa using hj)⟩
  · rcases h.foot with ⟨rfl, _⟩ | ⟨h1, h2, h3⟩
    · simp at hi
    · exact .inr ⟨fun e => h1 (List.eq_nil_of_length_eq_zero (by have := congrArg List.length e; simpa using this)), h2, h3⟩
  · simp only [List.length_set] at hj
    by_cases e : j = i
    · subst e
      rw [World.cell?_setCell_same _ _ _ (h.cell j hj)]
      simp [nth, hj]
    · rw [World.cell?_setCell_other _ _ _ _ (by intro e'; simp [adr] at e'; omega), h.cell j hj]
      simp [nth, Ne.symm e]
theorem OwI.blk {w : World} {a : Option Addr} {xs : List Int} {F : List Nat} (h : OwI w a xs F) (h0 : 0 < xs.length) : (∃ g o, a = some ⟨g, o, none⟩) ∧ F = [blk a] := by
  rcases h.foot with ⟨rfl, _⟩ | ⟨_, h2, h3⟩
  · simp at h0
  · exact ⟨h2, h3⟩
set_option maxHeartbeats 2000000 in
theorem moved_c (pc at_ reg by_ : Int) (a : Option Addr) (c : Nat) (regs : List Int) (w : World) (hx : SlI Any w a regs) (l1 : regs.length ≤ 8) (hr : 0 ≤ reg ∧ reg < regs.length) (hv : 0 ≤ nth regs reg.toNat ∧ nth regs reg.toNat ≤ 1000) (hby : -1 ≤ by_ ∧ by_ ≤ 1) :
    Calls Tryz.prog 61 #[.agg #[.int .i64 pc, .slice a regs.length c], .int .i64 at_, .int .i64 reg, .int .i64 by_] w (RetA w [.i at_, dI (regs.set reg.toNat (nth regs reg.toNat + by_))]) := by
  obtain ⟨i, rfl⟩ : ∃ i : Nat, reg = i := ⟨reg.toNat, by omega⟩
  rw [Int.toNat_natCast] at hv ⊢
  have hi : i < regs.length := by omega
  obtain ⟨ad, rfl⟩ := hx.addr (by omega)
  have hb0 : Below w.heap.size w ((w.alloc (.cells #[.int .i64 pc, .slice (some ad) regs.length c] 35)).alloc (.cells #[.int .i64 0, .slice none 0 0] 35)) := ((Below.refl _ _).alloc (Nat.le_refl _) _).alloc (by simp) _
  have HC := Lib.hid (clone_c Any ad c regs _ (hx.below hb0) (by omega))
  have HB0 := Lib.hid hb0
  clear hb0 hx
  go_enter Tryz.func61, Tryz.ntmps61
  go_wp2_with fail
  refine HC.out.mono ?_
  rintro e w1 ⟨v1, F1, rfl, hb1, ho1, hn1, hF1⟩
  obtain ⟨a1, c1, rfl, hcp, hoi⟩ := Ow_I.1 ho1
  obtain ⟨⟨g, o, rfl⟩, hFe⟩ := hoi.blk (by omega)
  have hgF : g ∈ F1 := by rw [hFe]; simp [blk]
  have hg1 : g < w1.heap.size := Ow.lt _ _ _ ho1 g hgF
  have hg2 : w.heap.size + 1 < g := by have := hF1 g hgF; simp at this; omega
  have hv1 : w.heap.size + 1 < w1.heap.size := by omega
  have hu1 : w.heap.size < w1.heap.size := by omega
  have n1 : ¬ w1.heap.size = g := by omega
  have n2 : ¬ g = w1.heap.size := by omega
  have n3 : ¬ w.heap.size + 1 = g := by omega
  have n4 : ¬ g = w.heap.size + 1 := by omega
  have n5 : ¬ w.heap.size + 1 = w1.heap.size := by omega
  have n6 : ¬ w1.heap.size = w.heap.size + 1 := by omega
  have f0 : w1.cell? ⟨g, o + i, none⟩ = some (.int .i64 (nth regs i)) := hoi.cell i hi
  have z0 : w1.frozen? ⟨g, o + i, none⟩ = false := hoi.free i hi
  have r0 : w1.cell? ⟨w.heap.size + 1, 0, none⟩ = some (.int .i64 0) := by rw [bcell1 hb1 (by simp)]; simp [go_sem]
  have r1 : w1.cell? ⟨w.heap.size + 1, 1, none⟩ = some (.slice none 0 0) := by rw [bcell1 hb1 (by simp)]; simp [go_sem]
  have s0 : w1.frozen? ⟨w.heap.size + 1, 0, none⟩ = false := by rw [hb1.frozen (p := ⟨w.heap.size + 1, 0, none⟩) (by simp)]; simp [go_sem]
  have s1 : w1.frozen? ⟨w.heap.size + 1, 1, none⟩ = false := by rw [hb1.frozen (p := ⟨w.heap.size + 1, 1, none⟩) (by simp)]; simp [go_sem]
  have i1 := ix_of (P := Tryz.prog) tabI.under tabI.size (a := some ⟨g, o, none⟩) (n := regs.length) (fun _ => ⟨g, o, rfl⟩) c1
  simp only [Nat.mul_one, adr, blk, ofs] at i1
  have hi2 : (i : Int) < regs.length := by omega
  have HO1 := Lib.hid ho1
  have HN1 := Lib.hid hn1
  have HF1 : Hid (∀ x, x ∈ F1 → w.heap.size + 1 < x) := Lib.hid (fun x hx => by have := hF1 x hx; simp at this; omega)
  have HB1 : Hid (Below w.heap.size w w1) := Lib.hid (HB0.out.trans (hb1.mono (by simp <;> omega)))
  have HLT : Hid (∀ x, x ∈ F1 → x < w1.heap.size) := Lib.hid (Ow.lt _ _ _ ho1)
  clear hb1 ho1 hn1 hF1 hoi hFe hgF
  go_wp2
  refine bodyPost_end (v := .agg #[.int .i64 at_, .slice (some ⟨g, o, none⟩) regs.length c1]) (by simp [results, Tryz.results61, go_sem, hv1, r0, r1]) rfl ?_
  have hset : ∀ wz : World, OwI wz (some ⟨g, o, none⟩) regs F1 → Ow (wz.setCell ⟨g, o + i, none⟩ (.int .i64 (nth regs i + by_))) (dI (regs.set i (nth regs i + by_))) (.slice (some ⟨g, o, none⟩) regs.length c1) F1 := fun wz h =>
    Ow_I.2 ⟨_, c1, by simp, by simpa using hcp, h.set hi _⟩
  refine ⟨_, F1 ++ [], rfl, ?be, ⟨[], _, ⟨rfl, rfl⟩, ⟨F1, _, ?ow, rfl, rfl⟩, rfl⟩, by simpa using HN1.out, fun x hx => by have := HF1.out x (by simpa using hx); omega⟩
  case be => repeat (first | exact HB1.out | refine Below.setCell ?_ (by simp <;> omega) _ | refine Below.alloc ?_ (by simp <;> omega) _)
  case ow =>
    have nb1 : w.heap.size + 1 ∉ F1 := fun hx => Nat.lt_irrefl _ (HF1.out _ hx)
    have nb2 : w1.heap.size ∉ F1 := fun hx => Nat.lt_irrefl _ (HLT.out _ hx)
    repeat (first | exact hset _ HO1.out.own | exact hset _ (Ow.own (Ow.setCell (Ow.setCell (HO1.out.below (below_alloc w1 _)) (p := ⟨w1.heap.size, 0, none⟩) nb2 _) (p := ⟨w1.heap.size, 1, none⟩) nb2 _)) | exact hset _ (Ow.own (HO1.out.below (below_alloc w1 _))) | refine Ow.setCell ?_ nb1 _ | refine Ow.setCell ?_ nb2 _ | refine Ow.below ?_ (below_alloc _ _))

/- Configs that follow: the program's function. -/
theorem Lst.cfg1 {E : TypeId} {w3 : World} {B : Nat} {sl : Value} {xs : List Int} {F : List Nat} (ho : Ow w3 (dI xs) sl F) (hn : F.Nodup) (hF : ∀ g, g ∈ F → B ≤ g) (hB : B ≤ w3.heap.size) (a : Int) :
    Lst E 2 (w3.alloc (.cells #[.int .i64 a, sl] E)) B (.slice (some ⟨w3.heap.size, 0, none⟩) 1 1) 1 [.i a, dI xs] (w3.heap.size :: F) := by
  refine ⟨[.int .i64 a, sl], F, ⟨by simp, .inr ⟨w3.heap.size, 1, #[.int .i64 a, sl], rfl, hB, heap_alloc_new w3 _, by omega, by simp [maxLen], by simp, by simp⟩⟩, ⟨[], F, ⟨rfl, rfl⟩, ⟨F, [], ho.below (below_alloc _ _), rfl, by simp⟩, by simp⟩, hn, hF, fun g hg hg2 => ?_, rfl⟩
  have h1 := Ow.lt _ _ _ ho g hg2
  have h2 : g = w3.heap.size := by simpa [ob, Value.ownBlock] using hg
  omega
theorem RetDC.noneC {w w' : World} (a : Option Addr) (c : Nat) (code : Int) (hb : Below w.heap.size w w') : RetDC w (dCS []) code (.returned (.tuple #[.slice a 0 c, .int .i64 code])) w' :=
  ⟨_, [], rfl, hb, Ow_empty _ _ _ _, by simp, by simp⟩
theorem RetDC.ofLst {E : TypeId} {w w' : World} {v : Value} {n : Nat} {ds : List D} {G : List Nat} {cs : List Cfg} (code : Int) (h : Lst E 2 w' w.heap.size v n ds G) (_hn : n = cs.length) (hds : ds = cs.flatMap Cfg.ds) (hb : Below w.heap.size w w') (hl : n ≤ maxLen := by simp [maxLen]) : RetDC w (dCS cs) code (.returned (.tuple #[v, .int .i64 code])) w' := by
  obtain ⟨G', ho, hN, hS⟩ := h.ow (by omega) hl
  subst hds
  exact ⟨v, G', rfl, hb, ho, hN, fun g hg => (h.lt g (hS g hg)).1⟩
theorem set_same {xs : List Int} {i : Nat} (h : i < xs.length) : xs.set i (nth xs i) = xs := by
  rw [nth_lt h]; exact List.set_getElem_self h
theorem movedC_c (pc at_ reg by_ : Int) (a : Option Addr) (c : Nat) (regs : List Int) (w : World) (hx : SlI Any w a regs) (l1 : regs.length ≤ 8) (hr : 0 ≤ reg ∧ reg < regs.length) (hv : 0 ≤ nth regs reg.toNat ∧ nth regs reg.toNat ≤ 1000) (hby : -1 ≤ by_ ∧ by_ ≤ 1) :
    Calls Tryz.prog 61 #[.agg #[.int .i64 pc, .slice a regs.length c], .int .i64 at_, .int .i64 reg, .int .i64 by_] w (fun e w' => ∃ a1 c1 F, e = .returned (.agg #[.int .i64 at_, .slice a1 regs.length c1]) ∧ Below w.heap.size w w' ∧ Ow w' (dI (regs.set reg.toNat (nth regs reg.toNat + by_))) (.slice a1 regs.length c1) F ∧ F.Nodup ∧ ∀ g, g ∈ F → w.heap.size ≤ g) := by
  refine (moved_c pc at_ reg by_ a c regs w hx l1 hr hv hby).mono ?_
  rintro e w' ⟨vs, F, rfl, hb, ho, hn, hF⟩
  match vs, ho with
  | [v0, v1], ⟨G0, _, ⟨h0, h0'⟩, ⟨G1, _, h1, h2, h3⟩, h4⟩ =>
    subst h0 h0'
    have h2' : _ = [] := h2
    subst h2' h3
    simp only [List.append_nil, List.nil_append] at h4
    subst h4
    obtain ⟨a1, c1, rfl⟩ := h1.val
    rw [List.length_set] at h1 ⊢
    exact ⟨a1, c1, _, rfl, hb, h1, hn, hF⟩
set_option maxHeartbeats 8000000 in
theorem next_c (R : Int) (ao : Option Addr) (co : Nat) (os : List Ord) (pc : Int) (a : Option Addr) (c : Nat) (regs : List Int) (w : World) (ho : SlO Any w ao os) (hx : SlI Any w a regs) (hvp : validProgS R os = true) (hcf : confOk R os.length pc regs = true) :
    Calls Tryz.prog 37 #[.agg #[.int .i64 R, .slice ao os.length co], .agg #[.int .i64 pc, .slice a regs.length c]] w (RetDC w (dCS (nextS os pc regs).1) (nextS os pc regs).2) := by
  have hR : 1 ≤ R ∧ R ≤ 3 ∧ 1 ≤ os.length ∧ os.length ≤ 6 := by simp [validProgS, inRg] at hvp; omega
  have hP : 0 ≤ pc ∧ pc ≤ os.length := by simp [confOk, inRg] at hcf; omega
  have hRg := regsOk_ok (show regsOk R regs = true by simp only [confOk, Bool.and_eq_true] at hcf; exact hcf.2)
  have hl8 : regs.length ≤ 8 := by omega
  have hb : Below w.heap.size w ((w.alloc (.cells #[.int .i64 R, .slice ao os.length co] 26)).alloc (.cells #[.int .i64 pc, .slice a regs.length c] 35)) := ((Below.refl _ _).alloc (Nat.le_refl _) _).alloc (by simp) _
  have HH := Lib.hid (halts_c R ao co os pc (.slice a regs.length c) ((w.alloc (.cells #[.int .i64 R, .slice ao os.length co] 26)).alloc (.cells #[.int .i64 pc, .slice a regs.length c] 35)) (ho.below hb) hP.1 hP.2)
  have HB := Lib.hid hb
  have HX := Lib.hid hx
  cases hh : haltS os pc
  rotate_left
  · have ev : nextS os pc regs = ([], 0) := by rw [nextS, if_pos hh]
    rw [ev]
    rw [hh] at HH
    clear ev hh hb hx hcf hvp
    go_enter Tryz.func37, Tryz.ntmps37
    go_wp2_with fail
    refine HH.out.mono ?_
    rintro e w1 ⟨rfl, hb1⟩
    have HB1 := Lib.hid (HB.out.trans (hb1.mono (by simp <;> omega)))
    clear hb1
    go_wp2
    go_ret2
    exact RetDC.noneC _ _ _ HB1.out
  · have ev : nextS os pc regs = nextO (nthO os pc.toNat) regs := by rw [nextS, if_neg (by rw [hh]; simp)]
    rw [hh] at HH
    have hne : pc ≠ os.length ∧ (nthO os pc.toNat).op ≠ 3 := by simp [haltS] at hh; exact hh
    have hlt : pc < os.length := by omega
    have hok : okOrd R os.length (nthO os pc.toNat) = true := by
      simp only [validProgS, Bool.and_eq_true] at hvp
      have h := hvp.2
      rw [allO, List.all_eq_true] at h
      rw [nthO_lt (by omega)]; exact h _ (List.getElem_mem (by omega))
    have hop : ((nthO os pc.toNat).op = 1 ∨ (nthO os pc.toNat).op = 2) ∧ 0 ≤ (nthO os pc.toNat).reg ∧ (nthO os pc.toNat).reg < R := by
      unfold okOrd at hok
      split at hok
      · rename_i h; simp [inRg] at hok; exact ⟨h, by omega, by omega⟩
      · simp at hok; exact absurd hok.1 hne.2
    have hrg : 0 ≤ (nthO os pc.toNat).reg ∧ (nthO os pc.toNat).reg < regs.length := by omega
    have hvv := hRg.2 (nthO os pc.toNat).reg.toNat (by omega)
    have i0 := fun w' => ixO ho co pc w' hP.1 hlt
    have i1 := fun w' => hx.ix tabI.under tabI.size c (nthO os pc.toNat).reg w' hrg.1 hrg.2
    have G0 := Lib.hid (ho.c0 pc.toNat (by omega))
    have G1 := Lib.hid (ho.c1 pc.toNat (by omega))
    have G2 := Lib.hid (ho.c2 pc.toNat (by omega))
    have G3 := Lib.hid (ho.c3 pc.toNat (by omega))
    have Q0 := Lib.hid (hx.cell (nthO os pc.toNat).reg.toNat (by omega))
    have HOP := Lib.hid hop.1
    have h2 : (nthO os pc.toNat).op = 1 ∨ (nthO os pc.toNat).op = 2 := hop.1
    have hcl : True := trivial
    clear hb hx ho hcf hvp hh hne hok hop hRg hR
    by_cases e2 : (nthO os pc.toNat).op = 2
    · have b2 : ((nthO os pc.toNat).op == 2) = true := by simp [e2]
      by_cases ev0 : 0 < nth regs (nthO os pc.toNat).reg.toNat
      · have er : nextO (nthO os pc.toNat) regs = ([⟨(nthO os pc.toNat).to, regs.set (nthO os pc.toNat).reg.toNat (nth regs (nthO os pc.toNat).reg.toNat + -1)⟩], 0) := by simp [nextO, e2, ev0, Int.sub_eq_add_neg]
        rw [ev, er]
        clear ev er e2 h2 HOP
        go_enter Tryz.func37, Tryz.ntmps37
        go_wp2_with fail
        refine HH.out.mono ?_
        rintro e w1 ⟨rfl, hb1⟩
        have hz1 : w.heap.size + 2 ≤ w1.heap.size := by have := hb1.size; (try simp at this); omega
        have hu1 : w.heap.size < w1.heap.size := by omega
        have hv1 : w.heap.size + 1 < w1.heap.size := by omega
        have e1 : w1.cell? ⟨w.heap.size, 1, none⟩ = some (.slice ao os.length co) := by rw [bcell1 hb1 (by simp <;> omega)]; simp [go_sem]
        have e2 : w1.cell? ⟨w.heap.size + 1, 0, none⟩ = some (.int .i64 pc) := by rw [bcell1 hb1 (by simp)]; simp [go_sem]
        have e3 : w1.cell? ⟨w.heap.size + 1, 1, none⟩ = some (.slice a regs.length c) := by rw [bcell1 hb1 (by simp)]; simp [go_sem]
        have hbw : Below w.heap.size w w1 := HB.out.trans (hb1.mono (by simp <;> omega))
        have g0 := (hbw.cell (World.block_lt_of_cell? w _ G0.out)).trans G0.out
        have g1 := (hbw.cell (World.block_lt_of_cell? w _ G1.out)).trans G1.out
        have g2 := (hbw.cell (World.block_lt_of_cell? w _ G2.out)).trans G2.out
        have g3 := (hbw.cell (World.block_lt_of_cell? w _ G3.out)).trans G3.out
        have q0 := (hbw.cell (World.block_lt_of_cell? w _ Q0.out)).trans Q0.out
        have qa := fun ob => (((below_alloc w1 ob).cell (World.block_lt_of_cell? w1 _ q0))).trans q0
        have HBW := Lib.hid hbw
        have HB2 : Hid (∀ o, Below w.heap.size w (w1.alloc o)) := Lib.hid (fun o => hbw.alloc (by omega) o)
        clear hb1 hbw
        go_wp2_with fail
        refine (movedC_c pc (nthO os pc.toNat).to (nthO os pc.toNat).reg (-1) a c regs _ (HX.out.below (HB2.out _)) hl8 hrg hvv (by omega)).mono ?_
        rintro e w3 ⟨xw3, yw3, F3, rfl, hbw3, how3, hnw3, hfw3⟩
        have hbt : Below w.heap.size w w3 := bnext (HB2.out (.cells #[.int .i64 (nthO os pc.toNat).op, .int .i64 (nthO os pc.toNat).reg, .int .i64 (nthO os pc.toNat).to, .int .i64 (nthO os pc.toNat).els] 66)) hbw3 (Nat.le_refl _)
        have hl : Lst 35 2 (w3.alloc (.cells #[.int .i64 (nthO os pc.toNat).to, .slice xw3 regs.length yw3] 35)) w.heap.size (.slice (some ⟨w3.heap.size, 0, none⟩) 1 1) 1 [.i (nthO os pc.toNat).to, dI (regs.set (nthO os pc.toNat).reg.toNat (nth regs (nthO os pc.toNat).reg.toNat + -1))] (w3.heap.size :: F3) := Lst.cfg1 how3 hnw3 (fun g hg => by have := hfw3 g hg; (try simp at this); omega) hbt.size _
        have HR := Lib.hid (RetDC.ofLst (cs := [⟨(nthO os pc.toNat).to, regs.set (nthO os pc.toNat).reg.toNat (nth regs (nthO os pc.toNat).reg.toNat + -1)⟩]) 0 hl rfl (by simp [Cfg.ds]) (hbt.alloc hbt.size _))
        clear hbw3 how3 hnw3 hfw3 hbt hl
        go_wp2
        go_ret2
        exact HR.out
      · have hlen8 : (nthO os pc.toNat).reg.toNat < regs.length := by omega
        have hv0 : ¬ 0 < nth regs (nthO os pc.toNat).reg.toNat := ev0
        have er : nextO (nthO os pc.toNat) regs = ([⟨(nthO os pc.toNat).els, regs⟩], 0) := by simp [nextO, e2, ev0]
        rw [ev, er]
        clear ev er e2 h2 HOP
        go_enter Tryz.func37, Tryz.ntmps37
        go_wp2_with fail
        refine HH.out.mono ?_
        rintro e w1 ⟨rfl, hb1⟩
        have hz1 : w.heap.size + 2 ≤ w1.heap.size := by have := hb1.size; (try simp at this); omega
        have hu1 : w.heap.size < w1.heap.size := by omega
        have hv1 : w.heap.size + 1 < w1.heap.size := by omega
        have e1 : w1.cell? ⟨w.heap.size, 1, none⟩ = some (.slice ao os.length co) := by rw [bcell1 hb1 (by simp <;> omega)]; simp [go_sem]
        have e2 : w1.cell? ⟨w.heap.size + 1, 0, none⟩ = some (.int .i64 pc) := by rw [bcell1 hb1 (by simp)]; simp [go_sem]
        have e3 : w1.cell? ⟨w.heap.size + 1, 1, none⟩ = some (.slice a regs.length c) := by rw [bcell1 hb1 (by simp)]; simp [go_sem]
        have hbw : Below w.heap.size w w1 := HB.out.trans (hb1.mono (by simp <;> omega))
        have g0 := (hbw.cell (World.block_lt_of_cell? w _ G0.out)).trans G0.out
        have g1 := (hbw.cell (World.block_lt_of_cell? w _ G1.out)).trans G1.out
        have g2 := (hbw.cell (World.block_lt_of_cell? w _ G2.out)).trans G2.out
        have g3 := (hbw.cell (World.block_lt_of_cell? w _ G3.out)).trans G3.out
        have q0 := (hbw.cell (World.block_lt_of_cell? w _ Q0.out)).trans Q0.out
        have qa := fun ob => (((below_alloc w1 ob).cell (World.block_lt_of_cell? w1 _ q0))).trans q0
        have HBW := Lib.hid hbw
        have HB2 : Hid (∀ o, Below w.heap.size w (w1.alloc o)) := Lib.hid (fun o => hbw.alloc (by omega) o)
        clear hb1 hbw
        go_wp2_with fail
        refine (movedC_c pc (nthO os pc.toNat).els (nthO os pc.toNat).reg 0 a c regs _ (HX.out.below (HB2.out _)) hl8 hrg hvv (by omega)).mono ?_
        rintro e w3 ⟨xw3, yw3, F3, rfl, hbw3, how3, hnw3, hfw3⟩
        have hbt : Below w.heap.size w w3 := bnext (HB2.out (.cells #[.int .i64 (nthO os pc.toNat).op, .int .i64 (nthO os pc.toNat).reg, .int .i64 (nthO os pc.toNat).to, .int .i64 (nthO os pc.toNat).els] 66)) hbw3 (Nat.le_refl _)
        have hl : Lst 35 2 (w3.alloc (.cells #[.int .i64 (nthO os pc.toNat).els, .slice xw3 regs.length yw3] 35)) w.heap.size (.slice (some ⟨w3.heap.size, 0, none⟩) 1 1) 1 [.i (nthO os pc.toNat).els, dI (regs.set (nthO os pc.toNat).reg.toNat (nth regs (nthO os pc.toNat).reg.toNat + 0))] (w3.heap.size :: F3) := Lst.cfg1 how3 hnw3 (fun g hg => by have := hfw3 g hg; (try simp at this); omega) hbt.size _
        have HR := Lib.hid (RetDC.ofLst (cs := [⟨(nthO os pc.toNat).els, regs⟩]) 0 hl rfl (by simp [Cfg.ds, set_same hlen8]) (hbt.alloc hbt.size _))
        clear hbw3 how3 hnw3 hfw3 hbt hl
        go_wp2
        go_ret2
        exact HR.out
    · have b2 : ((nthO os pc.toNat).op == 2) = false := by simp [e2]
      by_cases ev0 : nth regs (nthO os pc.toNat).reg.toNat = 1000
      · have er : nextO (nthO os pc.toNat) regs = ([], 3) := by simp [nextO, e2, ev0]
        have b3 : (nth regs (nthO os pc.toNat).reg.toNat == 1000) = true := by simp [ev0]
        rw [ev, er]
        clear ev er e2 h2 HOP ev0
        go_enter Tryz.func37, Tryz.ntmps37
        go_wp2_with fail
        refine HH.out.mono ?_
        rintro e w1 ⟨rfl, hb1⟩
        have hz1 : w.heap.size + 2 ≤ w1.heap.size := by have := hb1.size; (try simp at this); omega
        have hu1 : w.heap.size < w1.heap.size := by omega
        have hv1 : w.heap.size + 1 < w1.heap.size := by omega
        have e1 : w1.cell? ⟨w.heap.size, 1, none⟩ = some (.slice ao os.length co) := by rw [bcell1 hb1 (by simp <;> omega)]; simp [go_sem]
        have e2 : w1.cell? ⟨w.heap.size + 1, 0, none⟩ = some (.int .i64 pc) := by rw [bcell1 hb1 (by simp)]; simp [go_sem]
        have e3 : w1.cell? ⟨w.heap.size + 1, 1, none⟩ = some (.slice a regs.length c) := by rw [bcell1 hb1 (by simp)]; simp [go_sem]
        have hbw : Below w.heap.size w w1 := HB.out.trans (hb1.mono (by simp <;> omega))
        have g0 := (hbw.cell (World.block_lt_of_cell? w _ G0.out)).trans G0.out
        have g1 := (hbw.cell (World.block_lt_of_cell? w _ G1.out)).trans G1.out
        have g2 := (hbw.cell (World.block_lt_of_cell? w _ G2.out)).trans G2.out
        have g3 := (hbw.cell (World.block_lt_of_cell? w _ G3.out)).trans G3.out
        have q0 := (hbw.cell (World.block_lt_of_cell? w _ Q0.out)).trans Q0.out
        have qa := fun ob => (((below_alloc w1 ob).cell (World.block_lt_of_cell? w1 _ q0))).trans q0
        have HBW := Lib.hid hbw
        have HB2 : Hid (∀ o, Below w.heap.size w (w1.alloc o)) := Lib.hid (fun o => hbw.alloc (by omega) o)
        clear hb1 hbw
        go_wp2
        go_ret2
        exact RetDC.noneC _ _ _ (HB2.out _)
      · have b3 : (nth regs (nthO os pc.toNat).reg.toNat == 1000) = false := by simp [ev0]
        by_cases et : (nthO os pc.toNat).els = (nthO os pc.toNat).to
        · have er : nextO (nthO os pc.toNat) regs = ([⟨(nthO os pc.toNat).to, regs.set (nthO os pc.toNat).reg.toNat (nth regs (nthO os pc.toNat).reg.toNat + 1)⟩], 0) := by simp [nextO, e2, ev0, et]
          have b4 : ((nthO os pc.toNat).els != (nthO os pc.toNat).to) = false := by simp [et]
          rw [ev, er]
          clear ev er e2 h2 HOP ev0 et
          go_enter Tryz.func37, Tryz.ntmps37
          go_wp2_with fail
          refine HH.out.mono ?_
          rintro e w1 ⟨rfl, hb1⟩
          have hz1 : w.heap.size + 2 ≤ w1.heap.size := by have := hb1.size; (try simp at this); omega
          have hu1 : w.heap.size < w1.heap.size := by omega
          have hv1 : w.heap.size + 1 < w1.heap.size := by omega
          have e1 : w1.cell? ⟨w.heap.size, 1, none⟩ = some (.slice ao os.length co) := by rw [bcell1 hb1 (by simp <;> omega)]; simp [go_sem]
          have e2 : w1.cell? ⟨w.heap.size + 1, 0, none⟩ = some (.int .i64 pc) := by rw [bcell1 hb1 (by simp)]; simp [go_sem]
          have e3 : w1.cell? ⟨w.heap.size + 1, 1, none⟩ = some (.slice a regs.length c) := by rw [bcell1 hb1 (by simp)]; simp [go_sem]
          have hbw : Below w.heap.size w w1 := HB.out.trans (hb1.mono (by simp <;> omega))
          have g0 := (hbw.cell (World.block_lt_of_cell? w _ G0.out)).trans G0.out
          have g1 := (hbw.cell (World.block_lt_of_cell? w _ G1.out)).trans G1.out
          have g2 := (hbw.cell (World.block_lt_of_cell? w _ G2.out)).trans G2.out
          have g3 := (hbw.cell (World.block_lt_of_cell? w _ G3.out)).trans G3.out
          have q0 := (hbw.cell (World.block_lt_of_cell? w _ Q0.out)).trans Q0.out
          have qa := fun ob => (((below_alloc w1 ob).cell (World.block_lt_of_cell? w1 _ q0))).trans q0
          have HBW := Lib.hid hbw
          have HB2 : Hid (∀ o, Below w.heap.size w (w1.alloc o)) := Lib.hid (fun o => hbw.alloc (by omega) o)
          clear hb1 hbw
          go_wp2_with fail
          refine (movedC_c pc (nthO os pc.toNat).to (nthO os pc.toNat).reg 1 a c regs _ (HX.out.below (HB2.out _)) hl8 hrg hvv (by omega)).mono ?_
          rintro e w3 ⟨xw3, yw3, F3, rfl, hbw3, how3, hnw3, hfw3⟩
          have hbt : Below w.heap.size w w3 := bnext (HB2.out (.cells #[.int .i64 (nthO os pc.toNat).op, .int .i64 (nthO os pc.toNat).reg, .int .i64 (nthO os pc.toNat).to, .int .i64 (nthO os pc.toNat).els] 66)) hbw3 (Nat.le_refl _)
          have hl : Lst 35 2 (w3.alloc (.cells #[.int .i64 (nthO os pc.toNat).to, .slice xw3 regs.length yw3] 35)) w.heap.size (.slice (some ⟨w3.heap.size, 0, none⟩) 1 1) 1 [.i (nthO os pc.toNat).to, dI (regs.set (nthO os pc.toNat).reg.toNat (nth regs (nthO os pc.toNat).reg.toNat + 1))] (w3.heap.size :: F3) := Lst.cfg1 how3 hnw3 (fun g hg => by have := hfw3 g hg; (try simp at this); omega) hbt.size _
          have hu3 : w1.heap.size < w3.heap.size := by have := hbw3.size; (try simp at this); omega
          have c0 : w3.cell? ⟨w1.heap.size, 2, none⟩ = some (.int .i64 (nthO os pc.toNat).to) := by rw [bcell1 hbw3 (by simp)]; simp [go_sem]
          have c1 : w3.cell? ⟨w1.heap.size, 3, none⟩ = some (.int .i64 (nthO os pc.toNat).els) := by rw [bcell1 hbw3 (by simp)]; simp [go_sem]
          have HR := Lib.hid (RetDC.ofLst (cs := [⟨(nthO os pc.toNat).to, regs.set (nthO os pc.toNat).reg.toNat (nth regs (nthO os pc.toNat).reg.toNat + 1)⟩]) 0 hl rfl (by simp [Cfg.ds]) (hbt.alloc hbt.size _))
          clear hbw3 how3 hnw3 hfw3 hbt hl
          go_wp2
          go_ret2
          exact HR.out
        · have er : nextO (nthO os pc.toNat) regs = ([⟨(nthO os pc.toNat).to, regs.set (nthO os pc.toNat).reg.toNat (nth regs (nthO os pc.toNat).reg.toNat + 1)⟩, ⟨(nthO os pc.toNat).els, regs.set (nthO os pc.toNat).reg.toNat (nth regs (nthO os pc.toNat).reg.toNat + 1)⟩], 0) := by simp [nextO, e2, ev0, et]
          have b4 : ((nthO os pc.toNat).els != (nthO os pc.toNat).to) = true := by simp [et]
          rw [ev, er]
          clear ev er e2 h2 HOP ev0 et
          go_enter Tryz.func37, Tryz.ntmps37
          go_wp2_with fail
          refine HH.out.mono ?_
          rintro e w1 ⟨rfl, hb1⟩
          have hz1 : w.heap.size + 2 ≤ w1.heap.size := by have := hb1.size; (try simp at this); omega
          have hu1 : w.heap.size < w1.heap.size := by omega
          have hv1 : w.heap.size + 1 < w1.heap.size := by omega
          have e1 : w1.cell? ⟨w.heap.size, 1, none⟩ = some (.slice ao os.length co) := by rw [bcell1 hb1 (by simp <;> omega)]; simp [go_sem]
          have e2 : w1.cell? ⟨w.heap.size + 1, 0, none⟩ = some (.int .i64 pc) := by rw [bcell1 hb1 (by simp)]; simp [go_sem]
          have e3 : w1.cell? ⟨w.heap.size + 1, 1, none⟩ = some (.slice a regs.length c) := by rw [bcell1 hb1 (by simp)]; simp [go_sem]
          have hbw : Below w.heap.size w w1 := HB.out.trans (hb1.mono (by simp <;> omega))
          have g0 := (hbw.cell (World.block_lt_of_cell? w _ G0.out)).trans G0.out
          have g1 := (hbw.cell (World.block_lt_of_cell? w _ G1.out)).trans G1.out
          have g2 := (hbw.cell (World.block_lt_of_cell? w _ G2.out)).trans G2.out
          have g3 := (hbw.cell (World.block_lt_of_cell? w _ G3.out)).trans G3.out
          have q0 := (hbw.cell (World.block_lt_of_cell? w _ Q0.out)).trans Q0.out
          have qa := fun ob => (((below_alloc w1 ob).cell (World.block_lt_of_cell? w1 _ q0))).trans q0
          have HBW := Lib.hid hbw
          have HB2 : Hid (∀ o, Below w.heap.size w (w1.alloc o)) := Lib.hid (fun o => hbw.alloc (by omega) o)
          clear hb1 hbw
          go_wp2_with fail
          refine (movedC_c pc (nthO os pc.toNat).to (nthO os pc.toNat).reg 1 a c regs _ (HX.out.below (HB2.out _)) hl8 hrg hvv (by omega)).mono ?_
          rintro e w3 ⟨xw3, yw3, F3, rfl, hbw3, how3, hnw3, hfw3⟩
          have hbt : Below w.heap.size w w3 := bnext (HB2.out (.cells #[.int .i64 (nthO os pc.toNat).op, .int .i64 (nthO os pc.toNat).reg, .int .i64 (nthO os pc.toNat).to, .int .i64 (nthO os pc.toNat).els] 66)) hbw3 (Nat.le_refl _)
          have hl : Lst 35 2 (w3.alloc (.cells #[.int .i64 (nthO os pc.toNat).to, .slice xw3 regs.length yw3] 35)) w.heap.size (.slice (some ⟨w3.heap.size, 0, none⟩) 1 1) 1 [.i (nthO os pc.toNat).to, dI (regs.set (nthO os pc.toNat).reg.toNat (nth regs (nthO os pc.toNat).reg.toNat + 1))] (w3.heap.size :: F3) := Lst.cfg1 how3 hnw3 (fun g hg => by have := hfw3 g hg; (try simp at this); omega) hbt.size _
          have hu3 : w1.heap.size < w3.heap.size := by have := hbw3.size; (try simp at this); omega
          have hux : w.heap.size < w3.heap.size := by omega
          have hvx : w.heap.size + 1 < w3.heap.size := by omega
          have c0 : w3.cell? ⟨w1.heap.size, 2, none⟩ = some (.int .i64 (nthO os pc.toNat).to) := by rw [bcell1 hbw3 (by simp)]; simp [go_sem]
          have c1 : w3.cell? ⟨w1.heap.size, 3, none⟩ = some (.int .i64 (nthO os pc.toNat).els) := by rw [bcell1 hbw3 (by simp)]; simp [go_sem]
          have c2 : w3.cell? ⟨w1.heap.size, 1, none⟩ = some (.int .i64 (nthO os pc.toNat).reg) := by rw [bcell1 hbw3 (by simp)]; simp [go_sem]
          have c3 : w3.cell? ⟨w.heap.size + 1, 0, none⟩ = some (.int .i64 pc) := by rw [bcell1 hbw3 (by simp; omega), bcell1 (below_alloc _ _) (by omega)]; exact e2
          have c4 : w3.cell? ⟨w.heap.size + 1, 1, none⟩ = some (.slice a regs.length c) := by rw [bcell1 hbw3 (by simp; omega), bcell1 (below_alloc _ _) (by omega)]; exact e3
          have HL1 := Lib.hid hl
          have HBT := Lib.hid hbt
          have hlt1 := Lib.hid hl.lt
          have HB4 : Hid (∀ o, Below w.heap.size w (w3.alloc o)) := Lib.hid (fun o => hbt.alloc hbt.size o)
          clear hbw3 how3 hnw3 hfw3 hbt hl e1 e2 e3 g0 g1 g2 g3 q0 qa
          go_wp2_with fail
          refine (movedC_c pc (nthO os pc.toNat).els (nthO os pc.toNat).reg 1 a c regs _ (HX.out.below (HB4.out _)) hl8 hrg hvv (by omega)).mono ?_
          rintro e w5 ⟨xw5, yw5, F5, rfl, hbw5, how5, hnw5, hfw5⟩
          have hz5 : w3.heap.size + 1 ≤ w5.heap.size := by have := hbw5.size; (try simp at this); omega
          have hl5 := HL1.out.below hbw5
          have hl6 := hl5.below (below_alloc w5 (.cells #[.int .i64 (nthO os pc.toNat).els, .slice xw5 regs.length yw5] 35))
          have hb5 : Below w.heap.size w w5 := bnext (HB4.out _) hbw5 (Nat.le_refl _)
          have HB5 := Lib.hid hb5
          have hrow : RowAt (w5.alloc (.cells #[.int .i64 (nthO os pc.toNat).els, .slice xw5 regs.length yw5] 35)) w5.heap.size 2 w.heap.size [.i (nthO os pc.toNat).els, dI (regs.set (nthO os pc.toNat).reg.toNat (nth regs (nthO os pc.toNat).reg.toNat + 1))] [.int .i64 (nthO os pc.toNat).els, .slice xw5 regs.length yw5] F5 (w3.heap.size :: F3) :=
            ⟨⟨[], F5, ⟨rfl, rfl⟩, ⟨F5, [], how5.below (below_alloc _ _), rfl, by simp⟩, by simp⟩, rfl, hnw5, fun x hx => by have h1 := hfw5 x hx; (try simp at h1); have := HBT.out.size; omega, fun x hx hg => by have h1 := hfw5 x hx; (try simp at h1); have h2 := (hlt1.out x hg).2; (try simp at h2); omega, (fun j u hu => by match j, hu with | 0, hu => (simp at hu; subst hu; simp) | 1, hu => (simp at hu; subst hu; simp)), by simp [Value.oneCell']⟩
          have HROW := Lib.hid hrow
          have HL6 := Lib.hid hl6
          clear hbw5 how5 hnw5 hfw5 hl5 hl6 hb5 hrow
          go_wp2_with (at_builtin; refine app_lst rfl _ _ 41 rfl tabConfigSM rfl (by omega) (by decide) w.heap.size _ 1 _ _ _ _ _ rfl HL6.out w5.heap.size rfl HROW.out (by omega) (by have := HB5.out.size; first | omega | (simp; omega)) ?_)
          intro v7 w7 G7 hN
          have hb7 : Below w.heap.size w w7 := (HB5.out.alloc HB5.out.size _).trans (hN.chg.below (by have := HB5.out.size; simp; omega) (fun g hg => (HL6.out.lt g (ob_sub HL6.out g hg)).1))
          obtain ⟨_, a7, c7, rfl⟩ := hN.lst.val
          have HR := Lib.hid (RetDC.ofLst (cs := [⟨(nthO os pc.toNat).to, regs.set (nthO os pc.toNat).reg.toNat (nth regs (nthO os pc.toNat).reg.toNat + 1)⟩, ⟨(nthO os pc.toNat).els, regs.set (nthO os pc.toNat).reg.toNat (nth regs (nthO os pc.toNat).reg.toNat + 1)⟩]) 0 hN.lst rfl (by simp [Cfg.ds]) hb7)
          clear hN hb7
          go_wp2
          go_ret2
          exact HR.out

/- Configs that follow: the exported function, and what the reference looks at. -/
set_option maxHeartbeats 2000000 in
theorem implNextConfigs_d (R : Int) (os : List Ord) (pc : Int) (regs : List Int) {vo vr : Value} (w : World) (h1 : Rd Any w (dO os) vo) (h2 : Rd Any w (dI regs) vr) :
    Calls Tryz.prog 14 #[.agg #[.int .i64 R, vo], .agg #[.int .i64 pc, vr]] w (RetDC w (dCS (nextConfigsS R os pc regs).1) (nextConfigsS R os pc regs).2) := by
  obtain ⟨ao, co, rfl, ho⟩ := Rd_O.1 h1
  obtain ⟨a, c, rfl, hx⟩ := Rd_I.1 h2
  clear h1 h2
  have hb : Below w.heap.size w ((w.alloc (.cells #[.int .i64 R, .slice ao os.length co] 26)).alloc (.cells #[.int .i64 pc, .slice a regs.length c] 35)) := ((Below.refl _ _).alloc (Nat.le_refl _) _).alloc (by simp) _
  have HV := Lib.hid (implValidProgram_c R Any ao co os _ (ho.below hb))
  have HB := Lib.hid hb
  have HO := Lib.hid ho
  have HX := Lib.hid hx
  have hlo := ho.len
  clear hb ho hx
  cases hv : validProgS R os
  · have ev : nextConfigsS R os pc regs = ([], 1) := by simp [nextConfigsS, hv]
    rw [ev]
    rw [hv] at HV
    clear ev hv
    go_enter Tryz.func14, Tryz.ntmps14
    go_wp2_with fail
    refine HV.out.mono ?_
    rintro e w1 ⟨rfl, hb1⟩
    have HB1 := Lib.hid (HB.out.trans (hb1.mono (by simp <;> omega)))
    clear hb1
    go_wp2
    go_ret2
    exact RetDC.noneC _ _ _ HB1.out
  · rw [hv] at HV
    have HVP := Lib.hid hv
    cases hc : confOk R os.length pc regs
    · have ev : nextConfigsS R os pc regs = ([], 2) := by simp [nextConfigsS, hv, hc]
      rw [ev]
      have HCF := Lib.hid hc
      clear ev hv hc
      go_enter Tryz.func14, Tryz.ntmps14
      go_wp2_with fail
      refine HV.out.mono ?_
      rintro e w1 ⟨rfl, hb1⟩
      have e0 : w1.cell? ⟨w.heap.size, 0, none⟩ = some (.int .i64 R) := by rw [bcell1 hb1 (by simp <;> omega)]; simp [go_sem]
      have e1 : w1.cell? ⟨w.heap.size, 1, none⟩ = some (.slice ao os.length co) := by rw [bcell1 hb1 (by simp <;> omega)]; simp [go_sem]
      have e2 : w1.cell? ⟨w.heap.size + 1, 0, none⟩ = some (.int .i64 pc) := by rw [bcell1 hb1 (by simp)]; simp [go_sem]
      have e3 : w1.cell? ⟨w.heap.size + 1, 1, none⟩ = some (.slice a regs.length c) := by rw [bcell1 hb1 (by simp)]; simp [go_sem]
      have HB1 := Lib.hid (HB.out.trans (hb1.mono (by simp <;> omega)))
      have hic := isConfig_c R ao os.length co hlo pc a c regs w1 (HX.out.below HB1.out)
      rw [HCF.out] at hic
      have HIC := Lib.hid hic
      clear hb1 hic
      go_wp2_with fail
      refine HIC.out.mono ?_
      rintro e w2 ⟨rfl, hb2⟩
      have HB2 := Lib.hid (bnext HB1.out hb2 (Nat.le_refl _))
      clear hb2
      go_wp2
      go_ret2
      exact RetDC.noneC _ _ _ HB2.out
    · have ev : nextConfigsS R os pc regs = nextS os pc regs := by simp [nextConfigsS, hv, hc]
      rw [ev]
      have HCF := Lib.hid hc
      clear ev hv hc
      go_enter Tryz.func14, Tryz.ntmps14
      go_wp2_with fail
      refine HV.out.mono ?_
      rintro e w1 ⟨rfl, hb1⟩
      have e0 : w1.cell? ⟨w.heap.size, 0, none⟩ = some (.int .i64 R) := by rw [bcell1 hb1 (by simp <;> omega)]; simp [go_sem]
      have e1 : w1.cell? ⟨w.heap.size, 1, none⟩ = some (.slice ao os.length co) := by rw [bcell1 hb1 (by simp <;> omega)]; simp [go_sem]
      have e2 : w1.cell? ⟨w.heap.size + 1, 0, none⟩ = some (.int .i64 pc) := by rw [bcell1 hb1 (by simp)]; simp [go_sem]
      have e3 : w1.cell? ⟨w.heap.size + 1, 1, none⟩ = some (.slice a regs.length c) := by rw [bcell1 hb1 (by simp)]; simp [go_sem]
      have hz1 : w.heap.size + 2 ≤ w1.heap.size := by have := hb1.size; (try simp at this); omega
      have HB1 := Lib.hid (HB.out.trans (hb1.mono (by simp <;> omega)))
      have hic := isConfig_c R ao os.length co hlo pc a c regs w1 (HX.out.below HB1.out)
      rw [HCF.out] at hic
      have HIC := Lib.hid hic
      clear hb1 hic
      go_wp2_with fail
      refine HIC.out.mono ?_
      rintro e w2 ⟨rfl, hb2⟩
      have f0 := (bcell1 hb2 (i := 0) (b := w.heap.size) (by omega)).trans e0
      have f1 := (bcell1 hb2 (i := 1) (b := w.heap.size) (by omega)).trans e1
      have f2 := (bcell1 hb2 (i := 0) (b := w.heap.size + 1) (by omega)).trans e2
      have f3 := (bcell1 hb2 (i := 1) (b := w.heap.size + 1) (by omega)).trans e3
      have HB2 := Lib.hid (bnext HB1.out hb2 (Nat.le_refl _))
      have HN := Lib.hid (next_c R ao co os pc a c regs w2 (HO.out.below HB2.out) (HX.out.below HB2.out) HVP.out HCF.out)
      clear hb2 e0 e1 e2 e3
      go_wp2_with fail
      refine HN.out.mono ?_
      rintro e w3 ⟨v, F, rfl, hr⟩
      have HR : Hid (RetDC w (dCS (nextS os pc regs).1) (nextS os pc regs).2 _ w3) := Lib.hid (RetDC.from HB2.out (show RetDC w2 (dCS (nextS os pc regs).1) (nextS os pc regs).2 _ w3 from ⟨v, F, rfl, hr⟩))
      clear hr
      go_wp2
      go_ret2
      exact HR.out
set_option maxHeartbeats 1000000 in
theorem l05Halts_c (os : List Ord) (at_ : Int) (ao : Option Addr) (co p : Nat) (w : World) (ho : SlO Any w ao os) (hp1 : w.cell? ⟨p, 1, none⟩ = some (.slice ao os.length co)) (h0 : 0 ≤ at_) (h1 : at_ ≤ os.length) :
    Calls Tryz.prog 58 #[.pointer (some ⟨p, 0, none⟩), .int .i64 at_] w (RetP w (.bool (haltS os at_))) := by
  have i1 := ixO ho co
  cases e1 : (at_ == (os.length : Int))
  · have hlt : at_ < os.length := by simp at e1; omega
    have e : haltS os at_ = ((nthO os at_.toNat).op == 3) := by simp [haltS, e1]
    rw [e]
    have i2 := fun w' => i1 at_ w' h0 hlt
    have g0 := ho.c0 at_.toNat (by omega)
    clear e
    go_enter Tryz.func58, Tryz.ntmps58
    go_wp2
    go_ret
    exact ⟨rfl, rfl⟩
  · have e : haltS os at_ = true := by simp [haltS, e1]
    rw [e]
    clear e
    go_enter Tryz.func58, Tryz.ntmps58
    go_wp2
    go_ret
    exact ⟨rfl, rfl⟩
theorem l05Regs_c (R : Int) (p : Nat) (a : Option Addr) (c : Nat) (regs : List Int) (w : World) (hx : SlI Any w a regs) (hp0 : w.cell? ⟨p, 0, none⟩ = some (.int .i64 R)) :
    Calls Tryz.prog 55 #[.pointer (some ⟨p, 0, none⟩), .slice a regs.length c] w (RetP w (.bool (regsOk R regs))) := by
  have hb : bag6 R regs = regsOk R regs := by rw [bag6, regsOk, Bool.and_comm]
  have HC := Lib.hid (l06Bag_c R Any a c regs w hx)
  rw [hb] at HC
  clear hb
  go_enter Tryz.func55, Tryz.ntmps55
  go_wp2_with fail
  refine HC.out.mono ?_
  rintro e w' ⟨rfl, rfl⟩
  go_wp2
  go_ret
  exact ⟨rfl, rfl⟩
/- Configs that follow: the reference's functions. -/
/-- The call returns a datum in memory of its own, and says whether all is well. -/
def RetDB (w : World) (d : D) (ok : Bool) (e : Ending) (w' : World) : Prop := ∃ v F, e = .returned (.tuple #[v, .bool ok]) ∧ Below w.heap.size w w' ∧ Ow w' d v F ∧ F.Nodup ∧ ∀ g, g ∈ F → w.heap.size ≤ g
theorem RetDB.none {w w' : World} (a : Option Addr) (c : Nat) (ok : Bool) (hb : Below w.heap.size w w') : RetDB w (dCS []) ok (.returned (.tuple #[.slice a 0 c, .bool ok])) w' :=
  ⟨_, [], rfl, hb, Ow_empty _ _ _ _, by simp, by simp⟩
theorem RetDB.ofLst {E : TypeId} {w w' : World} {v : Value} {n : Nat} {ds : List D} {G : List Nat} {cs : List Cfg} (ok : Bool) (h : Lst E 2 w' w.heap.size v n ds G) (hds : ds = cs.flatMap Cfg.ds) (hb : Below w.heap.size w w') (hl : n ≤ maxLen := by simp [maxLen]) : RetDB w (dCS cs) ok (.returned (.tuple #[v, .bool ok])) w' := by
  obtain ⟨G', ho, hN, hS⟩ := h.ow (by omega) hl
  subst hds
  exact ⟨v, G', rfl, hb, ho, hN, fun g hg => (h.lt g (hS g hg)).1⟩
set_option maxHeartbeats 8000000 in
set_option maxRecDepth 100000 in
theorem l05Next_c (R : Int) (ao : Option Addr) (co p q r : Nat) (os : List Ord) (pc : Int) (a : Option Addr) (c : Nat) (regs : List Int) (w : World) (ho : SlO Any w ao os) (hx : SlI Any w a regs) (hp0 : w.cell? ⟨p, 0, none⟩ = some (.int .i64 R)) (hp1 : w.cell? ⟨p, 1, none⟩ = some (.slice ao os.length co)) (hq0 : w.cell? ⟨q, r, none⟩ = some (.int .i64 pc)) (hq1 : w.cell? ⟨q, r + 1, none⟩ = some (.slice a regs.length c)) (hvp : validProgS R os = true) (hcf : confOk R os.length pc regs = true) :
    Calls Tryz.prog 59 #[.pointer (some ⟨p, 0, none⟩), .pointer (some ⟨q, r, none⟩)] w (RetDB w (dCS (nextS os pc regs).1) ((nextS os pc regs).2 == 0)) := by
  have hR : 1 ≤ R ∧ R ≤ 3 ∧ 1 ≤ os.length ∧ os.length ≤ 6 := by simp [validProgS, inRg] at hvp; omega
  have hP : 0 ≤ pc ∧ pc ≤ os.length := by simp [confOk, inRg] at hcf; omega
  have hRg := regsOk_ok (show regsOk R regs = true by simp only [confOk, Bool.and_eq_true] at hcf; exact hcf.2)
  have hl8 : regs.length ≤ 8 := by omega
  have hpl : p < w.heap.size := World.block_lt_of_cell? w _ hp0
  have hql : q < w.heap.size := World.block_lt_of_cell? w _ hq0
  have HH := Lib.hid (l05Halts_c os pc ao co p w ho hp1 hP.1 hP.2)
  have HX := Lib.hid hx
  cases hh : haltS os pc
  rotate_left
  · have ev : nextS os pc regs = ([], 0) := by rw [nextS, if_pos hh]
    rw [ev]
    rw [hh] at HH
    clear ev hh hx hcf hvp
    go_enter Tryz.func59, Tryz.ntmps59
    go_wp2_with fail
    refine HH.out.mono ?_
    rintro e w1 ⟨rfl, rfl⟩
    go_wp2
    go_ret2
    exact RetDB.none _ _ _ (below_alloc _ _)
  · have ev : nextS os pc regs = nextO (nthO os pc.toNat) regs := by rw [nextS, if_neg (by rw [hh]; simp)]
    rw [hh] at HH
    have hne : pc ≠ os.length ∧ (nthO os pc.toNat).op ≠ 3 := by simp [haltS] at hh; exact hh
    have hlt : pc < os.length := by omega
    have hok : okOrd R os.length (nthO os pc.toNat) = true := by
      simp only [validProgS, Bool.and_eq_true] at hvp
      have h := hvp.2
      rw [allO, List.all_eq_true] at h
      rw [nthO_lt (by omega)]; exact h _ (List.getElem_mem (by omega))
    have hop : ((nthO os pc.toNat).op = 1 ∨ (nthO os pc.toNat).op = 2) ∧ 0 ≤ (nthO os pc.toNat).reg ∧ (nthO os pc.toNat).reg < R := by
      unfold okOrd at hok
      split at hok
      · rename_i h; simp [inRg] at hok; exact ⟨h, by omega, by omega⟩
      · simp at hok; exact absurd hok.1 hne.2
    have hrg : 0 ≤ (nthO os pc.toNat).reg ∧ (nthO os pc.toNat).reg < regs.length := by omega
    have hvv := hRg.2 (nthO os pc.toNat).reg.toNat (by omega)
    have i0 := fun w' => ixO ho co pc w' hP.1 hlt
    have g0 := ho.c0 pc.toNat (by omega)
    have g1 := ho.c1 pc.toNat (by omega)
    have g2 := ho.c2 pc.toNat (by omega)
    have g3 := ho.c3 pc.toNat (by omega)
    have k0 := fun ob => ((below_alloc w ob).cell (World.block_lt_of_cell? w _ g0)).trans g0
    have k1 := fun ob => ((below_alloc w ob).cell (World.block_lt_of_cell? w _ g1)).trans g1
    have k2 := fun ob => ((below_alloc w ob).cell (World.block_lt_of_cell? w _ g2)).trans g2
    have k3 := fun ob => ((below_alloc w ob).cell (World.block_lt_of_cell? w _ g3)).trans g3
    clear hx ho hcf hvp hh hne hok hop hRg
    have hbo : Below w.heap.size w (w.alloc (.cells #[.int .i64 (nthO os pc.toNat).op, .int .i64 (nthO os pc.toNat).reg, .int .i64 (nthO os pc.toNat).to, .int .i64 (nthO os pc.toNat).els] 66)).drew := (below_alloc w _).drew
    have HBO := Lib.hid hbo
    clear hbo hR
    by_cases e2 : (nthO os pc.toNat).op = 2
    · have b2 : ((nthO os pc.toNat).op == 2) = true := by simp [e2]
      by_cases ev0 : 0 < nth regs (nthO os pc.toNat).reg.toNat
      · have er : nextO (nthO os pc.toNat) regs = ([⟨(nthO os pc.toNat).to, regs.set (nthO os pc.toNat).reg.toNat (nth regs (nthO os pc.toNat).reg.toNat - 1)⟩], 0) := by simp [nextO, e2, ev0]
        have b0 : (nth regs (nthO os pc.toNat).reg.toNat == 0) = false := by rw [beq_eq_false_iff_ne]; omega
        rw [ev, er]
        clear ev er e2
        go_enter Tryz.func59, Tryz.ntmps59
        go_wp2_with fail
        refine HH.out.mono ?_
        rintro e w1 ⟨rfl, rfl⟩
        go_wp2
        go_region
        all_goals
          go_wp2_with fail
          refine (l00OwnN_c Any a c regs _ (HX.out.below HBO.out) (by omega)).mono ?_
          rintro e w2 ⟨v2, rfl, hb2, hl2⟩
          obtain ⟨a2, c2, F2, rfl, ho2, hn2, hF2⟩ := hl2.ow (by unfold maxLen; omega)
          obtain ⟨_, _, ea, hcp, hoi⟩ := Ow_I.1 ho2
          cases ea
          obtain ⟨⟨g, o, rfl⟩, hFe⟩ := hoi.blk (by omega)
          have hgF : g ∈ F2 := by rw [hFe]; simp [blk]
          have hg1 : g < w2.heap.size := Ow.lt _ _ _ ho2 g hgF
          have hg2 : w.heap.size < g := by have := hF2 g hgF; (try simp at this); omega
          have hu2 : w.heap.size < w2.heap.size := by omega
          have n1 : ¬ w.heap.size = g := by omega
          have n2 : ¬ g = w.heap.size := by omega
          have r0 : w2.cell? ⟨w.heap.size, 0, none⟩ = some (.int .i64 (nthO os pc.toNat).op) := by rw [bcell1 hb2 (by simp)]; simp [go_sem]
          have r1 : w2.cell? ⟨w.heap.size, 1, none⟩ = some (.int .i64 (nthO os pc.toNat).reg) := by rw [bcell1 hb2 (by simp)]; simp [go_sem]
          have r2 : w2.cell? ⟨w.heap.size, 2, none⟩ = some (.int .i64 (nthO os pc.toNat).to) := by rw [bcell1 hb2 (by simp)]; simp [go_sem]
          have r3 : w2.cell? ⟨w.heap.size, 3, none⟩ = some (.int .i64 (nthO os pc.toNat).els) := by rw [bcell1 hb2 (by simp)]; simp [go_sem]
          have i1 := fun w' => ix_of (P := Tryz.prog) tabI.under tabI.size (a := some ⟨g, o, none⟩) (n := regs.length) (fun _ => ⟨g, o, rfl⟩) c2 (nthO os pc.toNat).reg w' hrg.1 hrg.2
          simp only [Nat.mul_one, adr, blk, ofs] at i1
          have f0 : w2.cell? ⟨g, o + (nthO os pc.toNat).reg.toNat, none⟩ = some (.int .i64 (nth regs (nthO os pc.toNat).reg.toNat)) := hoi.cell (nthO os pc.toNat).reg.toNat (by omega)
          have z0 : w2.frozen? ⟨g, o + (nthO os pc.toNat).reg.toNat, none⟩ = false := hoi.free (nthO os pc.toNat).reg.toNat (by omega)
          have hbw : Below w.heap.size w w2 := HBO.out.trans (hb2.mono (by simp <;> omega))
          have hset : ∀ x, Ow (w2.setCell ⟨g, o + (nthO os pc.toNat).reg.toNat, none⟩ (.int .i64 x)) (dI (regs.set (nthO os pc.toNat).reg.toNat x)) (.slice (some ⟨g, o, none⟩) regs.length c2) F2 := fun x => Ow_I.2 ⟨_, c2, by simp, by simpa using hcp, hoi.set (by omega) x⟩
          have hbset : ∀ x, Below w.heap.size w (w2.setCell ⟨g, o + (nthO os pc.toNat).reg.toNat, none⟩ (.int .i64 x)) := fun x => hbw.setCell (show w.heap.size ≤ g by omega) _
          have hfr : ∀ x, x ∈ F2 → w.heap.size ≤ x := fun x hx => by have := hF2 x hx; (try simp at this); omega
          have HSET := Lib.hid hset
          have HBSET := Lib.hid hbset
          have HFR := Lib.hid hfr
          have HO2 := Lib.hid ho2
          have HN2 := Lib.hid hn2
          have HBW := Lib.hid hbw
          have HLT2 : Hid (∀ x, x ∈ F2 → x < w2.heap.size) := Lib.hid (Ow.lt _ _ _ ho2)
          clear hset hbset hfr ho2 hn2 hbw hb2 hl2 hF2 hoi hFe hgF hcp
          have hl : Lst 35 2 ((w2.setCell ⟨g, o + (nthO os pc.toNat).reg.toNat, none⟩ (.int .i64 (nth regs (nthO os pc.toNat).reg.toNat - 1))).alloc (.cells #[.int .i64 (nthO os pc.toNat).to, .slice (some ⟨g, o, none⟩) regs.length c2] 35)) w.heap.size (.slice (some ⟨(w2.setCell ⟨g, o + (nthO os pc.toNat).reg.toNat, none⟩ (.int .i64 (nth regs (nthO os pc.toNat).reg.toNat - 1))).heap.size, 0, none⟩) 1 1) 1 [.i (nthO os pc.toNat).to, dI (regs.set (nthO os pc.toNat).reg.toNat (nth regs (nthO os pc.toNat).reg.toNat - 1))] ((w2.setCell ⟨g, o + (nthO os pc.toNat).reg.toNat, none⟩ (.int .i64 (nth regs (nthO os pc.toNat).reg.toNat - 1))).heap.size :: F2) := Lst.cfg1 (HSET.out _) HN2.out HFR.out (HBSET.out (nth regs (nthO os pc.toNat).reg.toNat - 1)).size _
          have HR := Lib.hid (RetDB.ofLst (cs := [⟨(nthO os pc.toNat).to, regs.set (nthO os pc.toNat).reg.toNat (nth regs (nthO os pc.toNat).reg.toNat - 1)⟩]) true hl (by simp [Cfg.ds]) ((HBSET.out (nth regs (nthO os pc.toNat).reg.toNat - 1)).alloc (HBSET.out (nth regs (nthO os pc.toNat).reg.toNat - 1)).size _))
          clear hl
          go_wp2
          go_ret2
          first | exact HR.out | (have := HR.out; simpa using this)
      · have er : nextO (nthO os pc.toNat) regs = ([⟨(nthO os pc.toNat).els, regs⟩], 0) := by simp [nextO, e2, ev0]
        have b0 : (nth regs (nthO os pc.toNat).reg.toNat == 0) = true := by rw [beq_iff_eq]; omega
        rw [ev, er]
        clear ev er e2 ev0
        go_enter Tryz.func59, Tryz.ntmps59
        go_wp2_with fail
        refine HH.out.mono ?_
        rintro e w1 ⟨rfl, rfl⟩
        go_wp2
        go_region
        all_goals
          go_wp2_with fail
          refine (l00OwnN_c Any a c regs _ (HX.out.below HBO.out) (by omega)).mono ?_
          rintro e w2 ⟨v2, rfl, hb2, hl2⟩
          obtain ⟨a2, c2, F2, rfl, ho2, hn2, hF2⟩ := hl2.ow (by unfold maxLen; omega)
          obtain ⟨_, _, ea, hcp, hoi⟩ := Ow_I.1 ho2
          cases ea
          obtain ⟨⟨g, o, rfl⟩, hFe⟩ := hoi.blk (by omega)
          have hgF : g ∈ F2 := by rw [hFe]; simp [blk]
          have hg1 : g < w2.heap.size := Ow.lt _ _ _ ho2 g hgF
          have hg2 : w.heap.size < g := by have := hF2 g hgF; (try simp at this); omega
          have hu2 : w.heap.size < w2.heap.size := by omega
          have n1 : ¬ w.heap.size = g := by omega
          have n2 : ¬ g = w.heap.size := by omega
          have r0 : w2.cell? ⟨w.heap.size, 0, none⟩ = some (.int .i64 (nthO os pc.toNat).op) := by rw [bcell1 hb2 (by simp)]; simp [go_sem]
          have r1 : w2.cell? ⟨w.heap.size, 1, none⟩ = some (.int .i64 (nthO os pc.toNat).reg) := by rw [bcell1 hb2 (by simp)]; simp [go_sem]
          have r2 : w2.cell? ⟨w.heap.size, 2, none⟩ = some (.int .i64 (nthO os pc.toNat).to) := by rw [bcell1 hb2 (by simp)]; simp [go_sem]
          have r3 : w2.cell? ⟨w.heap.size, 3, none⟩ = some (.int .i64 (nthO os pc.toNat).els) := by rw [bcell1 hb2 (by simp)]; simp [go_sem]
          have i1 := fun w' => ix_of (P := Tryz.prog) tabI.under tabI.size (a := some ⟨g, o, none⟩) (n := regs.length) (fun _ => ⟨g, o, rfl⟩) c2 (nthO os pc.toNat).reg w' hrg.1 hrg.2
          simp only [Nat.mul_one, adr, blk, ofs] at i1
          have f0 : w2.cell? ⟨g, o + (nthO os pc.toNat).reg.toNat, none⟩ = some (.int .i64 (nth regs (nthO os pc.toNat).reg.toNat)) := hoi.cell (nthO os pc.toNat).reg.toNat (by omega)
          have z0 : w2.frozen? ⟨g, o + (nthO os pc.toNat).reg.toNat, none⟩ = false := hoi.free (nthO os pc.toNat).reg.toNat (by omega)
          have hbw : Below w.heap.size w w2 := HBO.out.trans (hb2.mono (by simp <;> omega))
          have hset : ∀ x, Ow (w2.setCell ⟨g, o + (nthO os pc.toNat).reg.toNat, none⟩ (.int .i64 x)) (dI (regs.set (nthO os pc.toNat).reg.toNat x)) (.slice (some ⟨g, o, none⟩) regs.length c2) F2 := fun x => Ow_I.2 ⟨_, c2, by simp, by simpa using hcp, hoi.set (by omega) x⟩
          have hbset : ∀ x, Below w.heap.size w (w2.setCell ⟨g, o + (nthO os pc.toNat).reg.toNat, none⟩ (.int .i64 x)) := fun x => hbw.setCell (show w.heap.size ≤ g by omega) _
          have hfr : ∀ x, x ∈ F2 → w.heap.size ≤ x := fun x hx => by have := hF2 x hx; (try simp at this); omega
          have HSET := Lib.hid hset
          have HBSET := Lib.hid hbset
          have HFR := Lib.hid hfr
          have HO2 := Lib.hid ho2
          have HN2 := Lib.hid hn2
          have HBW := Lib.hid hbw
          have HLT2 : Hid (∀ x, x ∈ F2 → x < w2.heap.size) := Lib.hid (Ow.lt _ _ _ ho2)
          clear hset hbset hfr ho2 hn2 hbw hb2 hl2 hF2 hoi hFe hgF hcp
          have hl : Lst 35 2 (w2.alloc (.cells #[.int .i64 (nthO os pc.toNat).els, .slice (some ⟨g, o, none⟩) regs.length c2] 35)) w.heap.size (.slice (some ⟨w2.heap.size, 0, none⟩) 1 1) 1 [.i (nthO os pc.toNat).els, dI (regs)] (w2.heap.size :: F2) := Lst.cfg1 (HO2.out) HN2.out HFR.out (HBW.out).size _
          have HR := Lib.hid (RetDB.ofLst (cs := [⟨(nthO os pc.toNat).els, regs⟩]) true hl (by simp [Cfg.ds]) ((HBW.out).alloc (HBW.out).size _))
          clear hl
          go_wp2
          go_ret2
          first | exact HR.out | (have := HR.out; simpa using this)
    · have b2 : ((nthO os pc.toNat).op == 2) = false := by simp [e2]
      by_cases ev0 : nth regs (nthO os pc.toNat).reg.toNat = 1000
      · have er : nextO (nthO os pc.toNat) regs = ([], 3) := by simp [nextO, e2, ev0]
        have b3 : (nth regs (nthO os pc.toNat).reg.toNat == 1000) = true := by simp [ev0]
        rw [ev, er]
        clear ev er e2 ev0
        go_enter Tryz.func59, Tryz.ntmps59
        go_wp2_with fail
        refine HH.out.mono ?_
        rintro e w1 ⟨rfl, rfl⟩
        go_wp2
        go_region
        all_goals
          go_wp2_with fail
          refine (l00OwnN_c Any a c regs _ (HX.out.below HBO.out) (by omega)).mono ?_
          rintro e w2 ⟨v2, rfl, hb2, hl2⟩
          obtain ⟨a2, c2, F2, rfl, ho2, hn2, hF2⟩ := hl2.ow (by unfold maxLen; omega)
          obtain ⟨_, _, ea, hcp, hoi⟩ := Ow_I.1 ho2
          cases ea
          obtain ⟨⟨g, o, rfl⟩, hFe⟩ := hoi.blk (by omega)
          have hgF : g ∈ F2 := by rw [hFe]; simp [blk]
          have hg1 : g < w2.heap.size := Ow.lt _ _ _ ho2 g hgF
          have hg2 : w.heap.size < g := by have := hF2 g hgF; (try simp at this); omega
          have hu2 : w.heap.size < w2.heap.size := by omega
          have n1 : ¬ w.heap.size = g := by omega
          have n2 : ¬ g = w.heap.size := by omega
          have r0 : w2.cell? ⟨w.heap.size, 0, none⟩ = some (.int .i64 (nthO os pc.toNat).op) := by rw [bcell1 hb2 (by simp)]; simp [go_sem]
          have r1 : w2.cell? ⟨w.heap.size, 1, none⟩ = some (.int .i64 (nthO os pc.toNat).reg) := by rw [bcell1 hb2 (by simp)]; simp [go_sem]
          have r2 : w2.cell? ⟨w.heap.size, 2, none⟩ = some (.int .i64 (nthO os pc.toNat).to) := by rw [bcell1 hb2 (by simp)]; simp [go_sem]
          have r3 : w2.cell? ⟨w.heap.size, 3, none⟩ = some (.int .i64 (nthO os pc.toNat).els) := by rw [bcell1 hb2 (by simp)]; simp [go_sem]
          have i1 := fun w' => ix_of (P := Tryz.prog) tabI.under tabI.size (a := some ⟨g, o, none⟩) (n := regs.length) (fun _ => ⟨g, o, rfl⟩) c2 (nthO os pc.toNat).reg w' hrg.1 hrg.2
          simp only [Nat.mul_one, adr, blk, ofs] at i1
          have f0 : w2.cell? ⟨g, o + (nthO os pc.toNat).reg.toNat, none⟩ = some (.int .i64 (nth regs (nthO os pc.toNat).reg.toNat)) := hoi.cell (nthO os pc.toNat).reg.toNat (by omega)
          have z0 : w2.frozen? ⟨g, o + (nthO os pc.toNat).reg.toNat, none⟩ = false := hoi.free (nthO os pc.toNat).reg.toNat (by omega)
          have hbw : Below w.heap.size w w2 := HBO.out.trans (hb2.mono (by simp <;> omega))
          have hset : ∀ x, Ow (w2.setCell ⟨g, o + (nthO os pc.toNat).reg.toNat, none⟩ (.int .i64 x)) (dI (regs.set (nthO os pc.toNat).reg.toNat x)) (.slice (some ⟨g, o, none⟩) regs.length c2) F2 := fun x => Ow_I.2 ⟨_, c2, by simp, by simpa using hcp, hoi.set (by omega) x⟩
          have hbset : ∀ x, Below w.heap.size w (w2.setCell ⟨g, o + (nthO os pc.toNat).reg.toNat, none⟩ (.int .i64 x)) := fun x => hbw.setCell (show w.heap.size ≤ g by omega) _
          have hfr : ∀ x, x ∈ F2 → w.heap.size ≤ x := fun x hx => by have := hF2 x hx; (try simp at this); omega
          have HSET := Lib.hid hset
          have HBSET := Lib.hid hbset
          have HFR := Lib.hid hfr
          have HO2 := Lib.hid ho2
          have HN2 := Lib.hid hn2
          have HBW := Lib.hid hbw
          have HLT2 : Hid (∀ x, x ∈ F2 → x < w2.heap.size) := Lib.hid (Ow.lt _ _ _ ho2)
          clear hset hbset hfr ho2 hn2 hbw hb2 hl2 hF2 hoi hFe hgF hcp
          go_wp2
          go_ret2
          exact RetDB.none _ _ _ (HBW.out.alloc HBW.out.size _)
      · have b3 : (nth regs (nthO os pc.toNat).reg.toNat == 1000) = false := by simp [ev0]
        by_cases et : (nthO os pc.toNat).els = (nthO os pc.toNat).to
        · have er : nextO (nthO os pc.toNat) regs = ([⟨(nthO os pc.toNat).to, regs.set (nthO os pc.toNat).reg.toNat (nth regs (nthO os pc.toNat).reg.toNat + 1)⟩], 0) := by simp [nextO, e2, ev0, et]
          have b4 : ((nthO os pc.toNat).els != (nthO os pc.toNat).to) = false := by simp [et]
          rw [ev, er]
          clear ev er e2 ev0 et
          go_enter Tryz.func59, Tryz.ntmps59
          go_wp2_with fail
          refine HH.out.mono ?_
          rintro e w1 ⟨rfl, rfl⟩
          go_wp2
          go_region
          all_goals
            go_wp2_with fail
            refine (l00OwnN_c Any a c regs _ (HX.out.below HBO.out) (by omega)).mono ?_
            rintro e w2 ⟨v2, rfl, hb2, hl2⟩
            obtain ⟨a2, c2, F2, rfl, ho2, hn2, hF2⟩ := hl2.ow (by unfold maxLen; omega)
            obtain ⟨_, _, ea, hcp, hoi⟩ := Ow_I.1 ho2
            cases ea
            obtain ⟨⟨g, o, rfl⟩, hFe⟩ := hoi.blk (by omega)
            have hgF : g ∈ F2 := by rw [hFe]; simp [blk]
            have hg1 : g < w2.heap.size := Ow.lt _ _ _ ho2 g hgF
            have hg2 : w.heap.size < g := by have := hF2 g hgF; (try simp at this); omega
            have hu2 : w.heap.size < w2.heap.size := by omega
            have n1 : ¬ w.heap.size = g := by omega
            have n2 : ¬ g = w.heap.size := by omega
            have r0 : w2.cell? ⟨w.heap.size, 0, none⟩ = some (.int .i64 (nthO os pc.toNat).op) := by rw [bcell1 hb2 (by simp)]; simp [go_sem]
            have r1 : w2.cell? ⟨w.heap.size, 1, none⟩ = some (.int .i64 (nthO os pc.toNat).reg) := by rw [bcell1 hb2 (by simp)]; simp [go_sem]
            have r2 : w2.cell? ⟨w.heap.size, 2, none⟩ = some (.int .i64 (nthO os pc.toNat).to) := by rw [bcell1 hb2 (by simp)]; simp [go_sem]
            have r3 : w2.cell? ⟨w.heap.size, 3, none⟩ = some (.int .i64 (nthO os pc.toNat).els) := by rw [bcell1 hb2 (by simp)]; simp [go_sem]
            have i1 := fun w' => ix_of (P := Tryz.prog) tabI.under tabI.size (a := some ⟨g, o, none⟩) (n := regs.length) (fun _ => ⟨g, o, rfl⟩) c2 (nthO os pc.toNat).reg w' hrg.1 hrg.2
            simp only [Nat.mul_one, adr, blk, ofs] at i1
            have f0 : w2.cell? ⟨g, o + (nthO os pc.toNat).reg.toNat, none⟩ = some (.int .i64 (nth regs (nthO os pc.toNat).reg.toNat)) := hoi.cell (nthO os pc.toNat).reg.toNat (by omega)
            have z0 : w2.frozen? ⟨g, o + (nthO os pc.toNat).reg.toNat, none⟩ = false := hoi.free (nthO os pc.toNat).reg.toNat (by omega)
            have hbw : Below w.heap.size w w2 := HBO.out.trans (hb2.mono (by simp <;> omega))
            have hset : ∀ x, Ow (w2.setCell ⟨g, o + (nthO os pc.toNat).reg.toNat, none⟩ (.int .i64 x)) (dI (regs.set (nthO os pc.toNat).reg.toNat x)) (.slice (some ⟨g, o, none⟩) regs.length c2) F2 := fun x => Ow_I.2 ⟨_, c2, by simp, by simpa using hcp, hoi.set (by omega) x⟩
            have hbset : ∀ x, Below w.heap.size w (w2.setCell ⟨g, o + (nthO os pc.toNat).reg.toNat, none⟩ (.int .i64 x)) := fun x => hbw.setCell (show w.heap.size ≤ g by omega) _
            have hfr : ∀ x, x ∈ F2 → w.heap.size ≤ x := fun x hx => by have := hF2 x hx; (try simp at this); omega
            have HSET := Lib.hid hset
            have HBSET := Lib.hid hbset
            have HFR := Lib.hid hfr
            have HO2 := Lib.hid ho2
            have HN2 := Lib.hid hn2
            have HBW := Lib.hid hbw
            have HLT2 : Hid (∀ x, x ∈ F2 → x < w2.heap.size) := Lib.hid (Ow.lt _ _ _ ho2)
            clear hset hbset hfr ho2 hn2 hbw hb2 hl2 hF2 hoi hFe hgF hcp
            have hl : Lst 35 2 ((w2.setCell ⟨g, o + (nthO os pc.toNat).reg.toNat, none⟩ (.int .i64 (nth regs (nthO os pc.toNat).reg.toNat + 1))).alloc (.cells #[.int .i64 (nthO os pc.toNat).to, .slice (some ⟨g, o, none⟩) regs.length c2] 35)) w.heap.size (.slice (some ⟨(w2.setCell ⟨g, o + (nthO os pc.toNat).reg.toNat, none⟩ (.int .i64 (nth regs (nthO os pc.toNat).reg.toNat + 1))).heap.size, 0, none⟩) 1 1) 1 [.i (nthO os pc.toNat).to, dI (regs.set (nthO os pc.toNat).reg.toNat (nth regs (nthO os pc.toNat).reg.toNat + 1))] ((w2.setCell ⟨g, o + (nthO os pc.toNat).reg.toNat, none⟩ (.int .i64 (nth regs (nthO os pc.toNat).reg.toNat + 1))).heap.size :: F2) := Lst.cfg1 (HSET.out _) HN2.out HFR.out (HBSET.out (nth regs (nthO os pc.toNat).reg.toNat + 1)).size _
            have HR := Lib.hid (RetDB.ofLst (cs := [⟨(nthO os pc.toNat).to, regs.set (nthO os pc.toNat).reg.toNat (nth regs (nthO os pc.toNat).reg.toNat + 1)⟩]) true hl (by simp [Cfg.ds]) ((HBSET.out (nth regs (nthO os pc.toNat).reg.toNat + 1)).alloc (HBSET.out (nth regs (nthO os pc.toNat).reg.toNat + 1)).size _))
            clear hl
            go_wp2
            go_ret2
            first | exact HR.out | (have := HR.out; simpa using this)
        · have er : nextO (nthO os pc.toNat) regs = ([⟨(nthO os pc.toNat).to, regs.set (nthO os pc.toNat).reg.toNat (nth regs (nthO os pc.toNat).reg.toNat + 1)⟩, ⟨(nthO os pc.toNat).els, regs.set (nthO os pc.toNat).reg.toNat (nth regs (nthO os pc.toNat).reg.toNat + 1)⟩], 0) := by simp [nextO, e2, ev0, et]
          have b4 : ((nthO os pc.toNat).els != (nthO os pc.toNat).to) = true := by simp [et]
          rw [ev, er]
          clear ev er e2 ev0 et
          have hrun := callFunc_run Tryz.func57 (by kernel_rfl) rfl
          go_enter Tryz.func59, Tryz.ntmps59
          go_wp2_with fail
          refine HH.out.mono ?_
          rintro e w1 ⟨rfl, rfl⟩
          go_wp2
          go_region
          all_goals
            go_wp2_with fail
            refine (l00OwnN_c Any a c regs _ (HX.out.below HBO.out) (by omega)).mono ?_
            rintro e w2 ⟨v2, rfl, hb2, hl2⟩
            obtain ⟨a2, c2, F2, rfl, ho2, hn2, hF2⟩ := hl2.ow (by unfold maxLen; omega)
            obtain ⟨_, _, ea, hcp, hoi⟩ := Ow_I.1 ho2
            cases ea
            obtain ⟨⟨g, o, rfl⟩, hFe⟩ := hoi.blk (by omega)
            have hgF : g ∈ F2 := by rw [hFe]; simp [blk]
            have hg1 : g < w2.heap.size := Ow.lt _ _ _ ho2 g hgF
            have hg2 : w.heap.size < g := by have := hF2 g hgF; (try simp at this); omega
            have hu2 : w.heap.size < w2.heap.size := by omega
            have n1 : ¬ w.heap.size = g := by omega
            have n2 : ¬ g = w.heap.size := by omega
            have r0 : w2.cell? ⟨w.heap.size, 0, none⟩ = some (.int .i64 (nthO os pc.toNat).op) := by rw [bcell1 hb2 (by simp)]; simp [go_sem]
            have r1 : w2.cell? ⟨w.heap.size, 1, none⟩ = some (.int .i64 (nthO os pc.toNat).reg) := by rw [bcell1 hb2 (by simp)]; simp [go_sem]
            have r2 : w2.cell? ⟨w.heap.size, 2, none⟩ = some (.int .i64 (nthO os pc.toNat).to) := by rw [bcell1 hb2 (by simp)]; simp [go_sem]
            have r3 : w2.cell? ⟨w.heap.size, 3, none⟩ = some (.int .i64 (nthO os pc.toNat).els) := by rw [bcell1 hb2 (by simp)]; simp [go_sem]
            have i1 := fun w' => ix_of (P := Tryz.prog) tabI.under tabI.size (a := some ⟨g, o, none⟩) (n := regs.length) (fun _ => ⟨g, o, rfl⟩) c2 (nthO os pc.toNat).reg w' hrg.1 hrg.2
            simp only [Nat.mul_one, adr, blk, ofs] at i1
            have f0 : w2.cell? ⟨g, o + (nthO os pc.toNat).reg.toNat, none⟩ = some (.int .i64 (nth regs (nthO os pc.toNat).reg.toNat)) := hoi.cell (nthO os pc.toNat).reg.toNat (by omega)
            have z0 : w2.frozen? ⟨g, o + (nthO os pc.toNat).reg.toNat, none⟩ = false := hoi.free (nthO os pc.toNat).reg.toNat (by omega)
            have hbw : Below w.heap.size w w2 := HBO.out.trans (hb2.mono (by simp <;> omega))
            have hset : ∀ x, Ow (w2.setCell ⟨g, o + (nthO os pc.toNat).reg.toNat, none⟩ (.int .i64 x)) (dI (regs.set (nthO os pc.toNat).reg.toNat x)) (.slice (some ⟨g, o, none⟩) regs.length c2) F2 := fun x => Ow_I.2 ⟨_, c2, by simp, by simpa using hcp, hoi.set (by omega) x⟩
            have hbset : ∀ x, Below w.heap.size w (w2.setCell ⟨g, o + (nthO os pc.toNat).reg.toNat, none⟩ (.int .i64 x)) := fun x => hbw.setCell (show w.heap.size ≤ g by omega) _
            have hfr : ∀ x, x ∈ F2 → w.heap.size ≤ x := fun x hx => by have := hF2 x hx; (try simp at this); omega
            have HSET := Lib.hid hset
            have HBSET := Lib.hid hbset
            have HFR := Lib.hid hfr
            have HO2 := Lib.hid ho2
            have HN2 := Lib.hid hn2
            have HBW := Lib.hid hbw
            have HLT2 : Hid (∀ x, x ∈ F2 → x < w2.heap.size) := Lib.hid (Ow.lt _ _ _ ho2)
            clear hset hbset hfr ho2 hn2 hbw hb2 hl2 hF2 hoi hFe hgF hcp
            have hl : Lst 35 2 ((w2.setCell ⟨g, o + (nthO os pc.toNat).reg.toNat, none⟩ (.int .i64 (nth regs (nthO os pc.toNat).reg.toNat + 1))).alloc (.cells #[.int .i64 (nthO os pc.toNat).to, .slice (some ⟨g, o, none⟩) regs.length c2] 35)) w.heap.size (.slice (some ⟨(w2.setCell ⟨g, o + (nthO os pc.toNat).reg.toNat, none⟩ (.int .i64 (nth regs (nthO os pc.toNat).reg.toNat + 1))).heap.size, 0, none⟩) 1 1) 1 [.i (nthO os pc.toNat).to, dI (regs.set (nthO os pc.toNat).reg.toNat (nth regs (nthO os pc.toNat).reg.toNat + 1))] ((w2.setCell ⟨g, o + (nthO os pc.toNat).reg.toNat, none⟩ (.int .i64 (nth regs (nthO os pc.toNat).reg.toNat + 1))).heap.size :: F2) := Lst.cfg1 (HSET.out _) HN2.out HFR.out (HBSET.out (nth regs (nthO os pc.toNat).reg.toNat + 1)).size _
            have hsz : (w2.setCell ⟨g, o + (nthO os pc.toNat).reg.toNat, none⟩ (.int .i64 (nth regs (nthO os pc.toNat).reg.toNat + 1))).heap.size = w2.heap.size := (Exc.setCell w2 ⟨g, o + (nthO os pc.toNat).reg.toNat, none⟩ _).size
            have hsl : SlI Any (w2.setCell ⟨g, o + (nthO os pc.toNat).reg.toNat, none⟩ (.int .i64 (nth regs (nthO os pc.toNat).reg.toNat + 1))) (some ⟨g, o, none⟩) (regs.set (nthO os pc.toNat).reg.toNat (nth regs (nthO os pc.toNat).reg.toNat + 1)) := (HSET.out (nth regs (nthO os pc.toNat).reg.toNat + 1)).arg
            have HOW : Hid (∀ wx, Below (w2.setCell ⟨g, o + (nthO os pc.toNat).reg.toNat, none⟩ (.int .i64 (nth regs (nthO os pc.toNat).reg.toNat + 1))).heap.size (w2.setCell ⟨g, o + (nthO os pc.toNat).reg.toNat, none⟩ (.int .i64 (nth regs (nthO os pc.toNat).reg.toNat + 1))) wx → Calls Tryz.prog 57 #[.slice (some ⟨g, o, none⟩) regs.length c2] wx (RetD wx (dI (regs.set (nthO os pc.toNat).reg.toNat (nth regs (nthO os pc.toNat).reg.toNat + 1))))) := Lib.hid (fun wx h => by
              have := Calls.mono (l00OwnN_c Any (some ⟨g, o, none⟩) c2 (regs.set (nthO os pc.toNat).reg.toNat (nth regs (nthO os pc.toNat).reg.toNat + 1)) wx (hsl.below h) (by simp; omega)) (fun e w' h => show RetD wx (dI (regs.set (nthO os pc.toNat).reg.toNat (nth regs (nthO os pc.toNat).reg.toNat + 1))) e w' from h.d (by simp; unfold maxLen; omega))
              simpa using this)
            have hr3 : ((w2.setCell ⟨g, o + (nthO os pc.toNat).reg.toNat, none⟩ (.int .i64 (nth regs (nthO os pc.toNat).reg.toNat + 1))).alloc (.cells #[.int .i64 (nthO os pc.toNat).to, .slice (some ⟨g, o, none⟩) regs.length c2] 35)).cell? ⟨w.heap.size, 3, none⟩ = some (.int .i64 (nthO os pc.toNat).els) := by
              rw [bcell1 (below_alloc _ _) (by rw [hsz]; exact hu2), World.cell?_setCell_other _ _ _ _ (by intro e; simp at e <;> omega)]; exact r3
            have hba : Below w.heap.size w ((w2.setCell ⟨g, o + (nthO os pc.toNat).reg.toNat, none⟩ (.int .i64 (nth regs (nthO os pc.toNat).reg.toNat + 1))).alloc (.cells #[.int .i64 (nthO os pc.toNat).to, .slice (some ⟨g, o, none⟩) regs.length c2] 35)) := (HBSET.out (nth regs (nthO os pc.toNat).reg.toNat + 1)).alloc (HBSET.out (nth regs (nthO os pc.toNat).reg.toNat + 1)).size _
            rw [hsz] at hl
            have hlt := hl.lt
            have HL := Lib.hid hl
            have HLT := Lib.hid hlt
            have HBA := Lib.hid hba
            have HSZ := Lib.hid hsz
            clear hl hsl hlt hba hsz
            go_wp2
            go_region_law (first
              | (refine step_callD rfl 57 #[.tmp 84] _ rfl hrun #[.slice (some ⟨g, o, none⟩) regs.length c2] (by first | rfl | (simp [Act.eval]; done) | (simp [Act.eval]; rfl)) (dI (regs.set (nthO os pc.toNat).reg.toNat (nth regs (nthO os pc.toNat).reg.toNat + 1))) (HOW.out _ (below_alloc _ _).drew) ?_; intro v5 F5 w5 hb5 ho5 hn5 hf5; obtain ⟨a5, c5, rfl⟩ := (show ∃ a c, v5 = .slice a regs.length c from by obtain ⟨a, c, e⟩ := ho5.val; exact ⟨a, c, by simpa using e⟩); have r5 := (bcell1 (b := w.heap.size) (i := 3) hb5 (by simp; omega)).trans hr3)
              | (refine step_lst rfl (.tmp 81) (.tmp 87) 41 rfl tabConfigSM rfl (by omega) (by decide) w.heap.size _ 1 _ [.i (nthO os pc.toNat).els, dI (regs.set (nthO os pc.toNat).reg.toNat (nth regs (nthO os pc.toNat).reg.toNat + 1))] _ F5 [.int .i64 (nthO os pc.toNat).els, .slice a5 regs.length c5] rfl ((HL.out.below ((Below.refl _ _).drew.trans hb5)).below (below_alloc _ _)) w5.heap.size rfl ⟨⟨[], F5, ⟨rfl, rfl⟩, ⟨F5, [], ho5.below (below_alloc _ _), rfl, by simp⟩, by simp⟩, rfl, hn5, fun x hx => by have h1 := hf5 x hx; have h2 := HBA.out.size; exact Nat.le_trans h2 h1, fun x hx hg => by have h1 : ((w2.setCell ⟨g, o + (nthO os pc.toNat).reg.toNat, none⟩ (.int .i64 (nth regs (nthO os pc.toNat).reg.toNat + 1))).alloc (.cells #[.int .i64 (nthO os pc.toNat).to, .slice (some ⟨g, o, none⟩) regs.length c2] 35)).heap.size ≤ x := hf5 x hx; have h2 := (HLT.out x hg).2; omega, (fun j u hu => by match j, hu with | 0, hu => (simp at hu; subst hu; simp) | 1, hu => (simp at hu; subst hu; simp)), by simp [Value.oneCell']⟩ (by omega) (by have h1 := HBA.out.size; have h2 : ((w2.setCell ⟨g, o + (nthO os pc.toNat).reg.toNat, none⟩ (.int .i64 (nth regs (nthO os pc.toNat).reg.toNat + 1))).alloc (.cells #[.int .i64 (nthO os pc.toNat).to, .slice (some ⟨g, o, none⟩) regs.length c2] 35)).heap.size ≤ w5.heap.size := hb5.size; simp only [World.size_alloc] at h1 h2 ⊢; omega) ?_; intro v7 w7 G7 hN))
            all_goals
              have hb5' : Below w.heap.size w w5 := HBA.out.trans (((Below.refl _ _).drew.trans hb5).mono HBA.out.size)
              have hb7 : Below w.heap.size w w7 := (hb5'.alloc hb5'.size _).trans (hN.chg.below (by have := hb5'.size; simp; omega) (fun x hx => (HLT.out x (ob_sub HL.out x hx)).1))
              obtain ⟨_, a7, c7, rfl⟩ := hN.lst.val
              have HR := Lib.hid (RetDB.ofLst (cs := [⟨(nthO os pc.toNat).to, regs.set (nthO os pc.toNat).reg.toNat (nth regs (nthO os pc.toNat).reg.toNat + 1)⟩, ⟨(nthO os pc.toNat).els, regs.set (nthO os pc.toNat).reg.toNat (nth regs (nthO os pc.toNat).reg.toNat + 1)⟩]) true hN.lst (by simp [Cfg.ds]) hb7)
              clear hN hb7 hb5' hb5 ho5 hn5 hf5
              go_wp2
              go_ret2
              first | exact HR.out | (have := HR.out; simpa using this)

/- Configs that follow: the reference's exported function, and how much a result holds. -/
theorem nextO_code (o : Ord) (regs : List Int) : (nextO o regs).2 = 0 ∨ ((nextO o regs).1 = [] ∧ (nextO o regs).2 = 3) := by
  unfold nextO
  split
  · split <;> simp
  · split <;> simp
theorem nextS_code (os : List Ord) (pc : Int) (regs : List Int) : (nextS os pc regs).2 = 0 ∨ ((nextS os pc regs).1 = [] ∧ (nextS os pc regs).2 = 3) := by
  unfold nextS
  split
  · simp
  · exact nextO_code _ _
theorem cfgs_cnt : ∀ (cs : List Cfg) (m : Nat), (∀ c, c ∈ cs → c.regs.length ≤ m) → cnt (dCS cs) ≤ cs.length * (m + 1)
  | [], m, _ => by simp [dCS, cnt, cntL]
  | c :: cs, m, h => by
    have h1 := cfgs_cnt cs m fun x hx => h x (by simp [hx])
    have h2 := h c (by simp)
    have h3 : cnt (dCS (c :: cs)) = 1 + (c.regs.length + cnt (dCS cs)) := by
      simp only [dCS, cnt, List.flatMap_cons, Cfg.ds, List.cons_append, List.nil_append, cntL, cntL_ints, dI] <;> omega
    rw [h3]
    simp only [List.length_cons, Nat.add_mul]
    omega
theorem nextO_small (o : Ord) (regs : List Int) : (nextO o regs).1.length ≤ 2 ∧ ∀ c, c ∈ (nextO o regs).1 → c.regs.length = regs.length := by
  unfold nextO
  split
  · split <;> simp
  · split
    · simp
    · split <;> simp
theorem nextS_small (os : List Ord) (pc : Int) (regs : List Int) : (nextS os pc regs).1.length ≤ 2 ∧ ∀ c, c ∈ (nextS os pc regs).1 → c.regs.length = regs.length := by
  unfold nextS
  split
  · simp
  · exact nextO_small _ _
theorem nextConfigs_cnt (R : Int) (os : List Ord) (pc : Int) (regs : List Int) : cnt (dCS (nextConfigsS R os pc regs).1) ≤ 16777216 := by
  unfold nextConfigsS
  split
  · rename_i hv
    split
    · rename_i hc
      have hR : 1 ≤ R ∧ R ≤ 3 := by simp [validProgS, inRg] at hv; omega
      have hRg := regsOk_ok (show regsOk R regs = true by simp only [confOk, Bool.and_eq_true] at hc; exact hc.2)
      have h1 := nextS_small os pc regs
      have h2 := cfgs_cnt (nextS os pc regs).1 3 fun c hcx => by have := h1.2 c hcx; omega
      omega
    · simp [dCS, cnt, cntL]
  · simp [dCS, cnt, cntL]
end Go.Proofs.YtbnikblhnibgiaaGreatDoor
