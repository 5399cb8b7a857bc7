/- Configs that follow: what they are, and what is looked at. -/
import Derived.Test.YtdcpdipakglnnaaQ
import Derived.Test.YtdcpdipakglnnaaR
import Derived.Test.YtdcpdipakglnnaaTC
import Derived.Test.YtdcpdipakglnnaaYC
import Derived.Test.YtdcpdipakglnnaaQV
import Derived.Test.YtdcpdipakglnnaaPG
namespace Go.Proofs.Ytdcpdipakglnnaa
open Go.RowKit

def haltS (os : List Ord) (at_ : Int) : Bool := (at_ == (os.length : Int)) || ((nthO os at_.toNat).op == 3)
def regsOk (R : Int) (regs : List Int) : Bool := ((regs.length : Int) == R) && allB cntOk regs
def confOk (R : Int) (n : Nat) (pc : Int) (regs : List Int) : Bool := inRg pc 0 n && regsOk R regs
/-- The configs that can follow by an order, and a code. -/
def nextO (o : Ord) (regs : List Int) : List Cfg × Int :=
  if o.op = 2 then (if 0 < nth regs o.reg.toNat then ([⟨o.to, regs.set o.reg.toNat (nth regs o.reg.toNat - 1)⟩], 0) else ([⟨o.els, regs⟩], 0))
  else if nth regs o.reg.toNat = 1000 then ([], 3)
  else (if o.els = o.to then [⟨o.to, regs.set o.reg.toNat (nth regs o.reg.toNat + 1)⟩] else [⟨o.to, regs.set o.reg.toNat (nth regs o.reg.toNat + 1)⟩, ⟨o.els, regs.set o.reg.toNat (nth regs o.reg.toNat + 1)⟩], 0)
def nextS (os : List Ord) (pc : Int) (regs : List Int) : List Cfg × Int := if haltS os pc = true then ([], 0) else nextO (nthO os pc.toNat) regs
def nextConfigsS (R : Int) (os : List Ord) (pc : Int) (regs : List Int) : List Cfg × Int :=
  if validProgS R os = true then (if confOk R os.length pc regs = true then nextS os pc regs else ([], 2)) else ([], 1)
theorem regsOk_ok {R : Int} {regs : List Int} (h : regsOk R regs = true) : (regs.length : Int) = R ∧ small regs := by
  simp only [regsOk, Bool.and_eq_true] at h
  refine ⟨by simpa using h.1, fun j hj => ?_⟩
  have := allB_at h.2 hj
  simpa [cntOk, inRg] using this
theorem areRegs1_c (n : Int) (w : World) : Calls Try.prog 202 #[.int .i64 n] w (RetP w (.bool (!cntOk n))) := by
  go_enter Try.func202, Try.ntmps202
  go_wp2_with fail
  refine (inRange_c _ _ _ _).mono ?_
  rintro e w' ⟨rfl, rfl⟩
  go_wp2
  go_ret
  exact ⟨rfl, rfl⟩
set_option maxHeartbeats 1000000 in
theorem areRegs_c (R : Int) (vo : Value) (a : Option Addr) (c : Nat) (regs : List Int) (w : World) (hx : SlI Any w a regs) :
    Calls Try.prog 181 #[.agg #[.int .i64 R, vo], .slice a regs.length c] w (RetV w (.bool (regsOk R regs))) := by
  have hb0 := below_alloc w (.cells #[.int .i64 R, vo] 65)
  have l1 := hx.len
  have hb : ∀ x : Wd (w.alloc (.cells #[.int .i64 R, vo] 65)), Below w.heap.size w (wat x) := fun x => hb0.trans ((wat_below x).mono (by simp))
  have hcf : ∀ x : Wd (w.alloc (.cells #[.int .i64 R, vo] 65)), Calls Try.prog 156 #[.slice a regs.length c, .func (.func 202) #[] #[]] (wat x) (RetP (wat x) (.bool (!allB cntOk regs))) := fun x => by
    have := containsFuncI_c 202 #[] (fun n => !cntOk n) (callFunc_run Try.func202 (by kernel_rfl) rfl) Any a c regs (wat x) (hx.below (hb x)) (Lib.hid fun n => areRegs1_c n (wat x))
    rwa [anyB_not] at this
  have HS := Lib.hid (fun x : Wd (w.alloc (.cells #[.int .i64 R, vo] 65)) => callsP (size_int_c a regs.length c (wat x) l1))
  have HC := Lib.hid (fun x : Wd (w.alloc (.cells #[.int .i64 R, vo] 65)) => callsP (hcf x))
  have q0 := wat_cell (show (w.alloc (.cells #[.int .i64 R, vo] 65)).cell? ⟨w.heap.size, 0, none⟩ = some (.int .i64 R) by simp [go_sem])
  have HB := Lib.hid hb
  clear hb hcf hb0 hx l1
  cases h1 : ((regs.length : Int) == R)
  · have e : regsOk R regs = false := by simp [regsOk, h1]
    rw [e]
    clear e
    go_enter Try.func181, Try.ntmps181
    go_wp2
    refine wp_quiet_wd (by kernel_rfl) (by kernel_rfl) ?_
    repeat (go_big_quiet_step (first | with_reducible exact wdV (HS.out _) | with_reducible exact wdV (HC.out _)))
    refine wpQuiet_nil ?_
    rintro _ ⟨wq, rfl⟩
    go_wp2
    go_ret
    exact ⟨rfl, HB.out wq⟩
  · have e : regsOk R regs = allB cntOk regs := by simp [regsOk, h1]
    rw [e]
    clear e
    go_enter Try.func181, Try.ntmps181
    go_wp2
    refine wp_quiet_wd (by kernel_rfl) (by kernel_rfl) ?_
    repeat (go_big_quiet_step (first | with_reducible exact wdV (HS.out _) | with_reducible exact wdV (HC.out _)))
    refine wpQuiet_nil ?_
    rintro _ ⟨wq, rfl⟩
    go_wp2
    go_ret
    exact ⟨ret_bool (by simp), HB.out wq⟩
set_option maxHeartbeats 2000000 in
theorem isConfig_c (R : Int) (ao : Option Addr) (no co : Nat) (hno : no ≤ maxLen) (pc : Int) (a : Option Addr) (c : Nat) (regs : List Int) (w : World) (hx : SlI Any w a regs) :
    Calls Try.prog 132 #[.agg #[.int .i64 R, .slice ao no co], .agg #[.int .i64 pc, .slice a regs.length c]] w (RetV w (.bool (confOk R no pc regs))) := by
  have hb0 : Below w.heap.size w ((w.alloc (.cells #[.int .i64 R, .slice ao no co] 65)).alloc (.cells #[.int .i64 pc, .slice a regs.length c] 78)) := ((Below.refl _ _).alloc (Nat.le_refl _) _).alloc (by simp) _
  have hb : ∀ x : Wd ((w.alloc (.cells #[.int .i64 R, .slice ao no co] 65)).alloc (.cells #[.int .i64 pc, .slice a regs.length c] 78)), Below w.heap.size w (wat x) := fun x => hb0.trans ((wat_below x).mono (by simp <;> omega))
  have HS := Lib.hid (fun x : Wd ((w.alloc (.cells #[.int .i64 R, .slice ao no co] 65)).alloc (.cells #[.int .i64 pc, .slice a regs.length c] 78)) => callsP (size_ord_c ao no co (wat x) hno))
  have HI := Lib.hid (fun x : Wd ((w.alloc (.cells #[.int .i64 R, .slice ao no co] 65)).alloc (.cells #[.int .i64 pc, .slice a regs.length c] 78)) => callsP (inRange_c pc 0 no (wat x)))
  have HA := Lib.hid (fun x : Wd ((w.alloc (.cells #[.int .i64 R, .slice ao no co] 65)).alloc (.cells #[.int .i64 pc, .slice a regs.length c] 78)) => areRegs_c R (.slice ao no co) a c regs (wat x) (hx.below (hb x)))
  have q0 := wat_cell (show ((w.alloc (.cells #[.int .i64 R, .slice ao no co] 65)).alloc (.cells #[.int .i64 pc, .slice a regs.length c] 78)).cell? ⟨w.heap.size, 0, none⟩ = some (.int .i64 R) by simp [go_sem])
  have q1 := wat_cell (show ((w.alloc (.cells #[.int .i64 R, .slice ao no co] 65)).alloc (.cells #[.int .i64 pc, .slice a regs.length c] 78)).cell? ⟨w.heap.size, 1, none⟩ = some (.slice ao no co) by simp [go_sem])
  have q2 := wat_cell (show ((w.alloc (.cells #[.int .i64 R, .slice ao no co] 65)).alloc (.cells #[.int .i64 pc, .slice a regs.length c] 78)).cell? ⟨w.heap.size + 1, 0, none⟩ = some (.int .i64 pc) by simp [go_sem])
  have q3 := wat_cell (show ((w.alloc (.cells #[.int .i64 R, .slice ao no co] 65)).alloc (.cells #[.int .i64 pc, .slice a regs.length c] 78)).cell? ⟨w.heap.size + 1, 1, none⟩ = some (.slice a regs.length c) by simp [go_sem])
  have HB := Lib.hid hb
  clear hb hb0 hx
  cases h1 : inRg pc 0 no
  · have e : confOk R no pc regs = false := by simp [confOk, h1]
    rw [e]
    rw [h1] at HI
    clear e h1
    go_enter Try.func132, Try.ntmps132
    go_wp2
    refine wp_quiet_wd (by kernel_rfl) (by kernel_rfl) ?_
    repeat (go_big_quiet_step (first | with_reducible exact wdV (HS.out _) | with_reducible exact wdV (HI.out _) | with_reducible exact wdV (HA.out _)))
    refine wpQuiet_nil ?_
    rintro _ ⟨wq, rfl⟩
    go_wp2
    go_ret
    exact ⟨rfl, HB.out wq⟩
  · have e : confOk R no pc regs = regsOk R regs := by simp [confOk, h1]
    rw [e]
    rw [h1] at HI
    clear e h1
    go_enter Try.func132, Try.ntmps132
    go_wp2
    refine wp_quiet_wd (by kernel_rfl) (by kernel_rfl) ?_
    repeat (go_big_quiet_step (first | with_reducible exact wdV (HS.out _) | with_reducible exact wdV (HI.out _) | with_reducible exact wdV (HA.out _)))
    refine wpQuiet_nil ?_
    rintro _ ⟨wq, rfl⟩
    go_wp2
    go_ret
    exact ⟨rfl, HB.out wq⟩
set_option maxHeartbeats 2000000 in
theorem halts_c (R : Int) (ao : Option Addr) (co : Nat) (os : List Ord) (pc : Int) (vr : Value) (w : World) (ho : SlO Any w ao os) (h0 : 0 ≤ pc) (h1 : pc ≤ os.length) :
    Calls Try.prog 124 #[.agg #[.int .i64 R, .slice ao os.length co], .agg #[.int .i64 pc, vr]] w (RetV w (.bool (haltS os pc))) := by
  have hb0 : Below w.heap.size w ((w.alloc (.cells #[.int .i64 R, .slice ao os.length co] 65)).alloc (.cells #[.int .i64 pc, vr] 78)) := ((Below.refl _ _).alloc (Nat.le_refl _) _).alloc (by simp) _
  have hb : ∀ x : Wd ((w.alloc (.cells #[.int .i64 R, .slice ao os.length co] 65)).alloc (.cells #[.int .i64 pc, vr] 78)), Below w.heap.size w (wat x) := fun x => hb0.trans ((wat_below x).mono (by simp <;> omega))
  have l1 := ho.len
  have HS := Lib.hid (fun x : Wd ((w.alloc (.cells #[.int .i64 R, .slice ao os.length co] 65)).alloc (.cells #[.int .i64 pc, vr] 78)) => callsP (size_ord_c ao os.length co (wat x) l1))
  have q1 := wat_cell (show ((w.alloc (.cells #[.int .i64 R, .slice ao os.length co] 65)).alloc (.cells #[.int .i64 pc, vr] 78)).cell? ⟨w.heap.size, 1, none⟩ = some (.slice ao os.length co) by simp [go_sem])
  have q2 := wat_cell (show ((w.alloc (.cells #[.int .i64 R, .slice ao os.length co] 65)).alloc (.cells #[.int .i64 pc, vr] 78)).cell? ⟨w.heap.size + 1, 0, none⟩ = some (.int .i64 pc) by simp [go_sem])
  have i1 := ixO ho co
  unfold maxLen at l1
  have HB := Lib.hid hb
  have HO := Lib.hid ho
  clear hb ho
  cases e1 : (pc == (os.length : Int))
  · have hlt : pc < os.length := by simp at e1; omega
    have e : haltS os pc = ((nthO os pc.toNat).op == 3) := by simp [haltS, e1]
    rw [e]
    have i2 := fun w' => i1 pc w' h0 hlt
    have g0 := wat_cell (show ((w.alloc (.cells #[.int .i64 R, .slice ao os.length co] 65)).alloc (.cells #[.int .i64 pc, vr] 78)).cell? (adr ao (pc.toNat * 4)) = some (.int .i64 (nthO os pc.toNat).op) from (hb0.cell (World.block_lt_of_cell? w _ (HO.out.c0 pc.toNat (by omega)))).trans (HO.out.c0 pc.toNat (by omega)))
    clear e hb0
    go_enter Try.func124, Try.ntmps124
    go_wp2
    refine wp_quiet_wd (by kernel_rfl) (by kernel_rfl) ?_
    repeat (go_big_quiet_step (with_reducible exact wdV (HS.out _)))
    refine wpQuiet_nil ?_
    rintro _ ⟨wq, rfl⟩
    go_wp2
    go_ret
    exact ⟨rfl, HB.out wq⟩
  · have e : haltS os pc = true := by simp [haltS, e1]
    rw [e]
    clear e hb0
    go_enter Try.func124, Try.ntmps124
    go_wp2
    refine wp_quiet_wd (by kernel_rfl) (by kernel_rfl) ?_
    repeat (go_big_quiet_step (with_reducible exact wdV (HS.out _)))
    refine wpQuiet_nil ?_
    rintro _ ⟨wq, rfl⟩
    go_wp2
    go_ret
    exact ⟨rfl, HB.out wq⟩
end Go.Proofs.Ytdcpdipakglnnaa
