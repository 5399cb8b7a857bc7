/- Configs that follow: the program's functions. -/
import Derived.Test.YtdcpdipakglnnaaNC
import Derived.Test.YtdcpdipakglnnaaPH
namespace Go.Proofs.Ytdcpdipakglnnaa
open Go.RowKit

/-- A number in a list of one's own is replaced. -/
theorem OwI.set {w : World} {a : Option Addr} {xs : List Int} {F : List Nat} (h : OwI w a xs F) {i : Nat} (hi : i < xs.length) (x : Int) : OwI (w.setCell (adr a i) (.int .i64 x)) a (xs.set i x) F := by
  refine ⟨by simpa using h.len, ?_, fun j hj => ?_, fun j hj => by rw [World.frozen?_setCell]; exact h.free j (by simpa using hj)⟩
  · rcases h.foot with ⟨rfl, _⟩ | ⟨h1, h2, h3⟩
    · simp at hi
    · exact .inr ⟨fun e => h1 (List.eq_nil_of_length_eq_zero (by have := congrArg List.length e; simpa using this)), h2, h3⟩
  · simp only [List.length_set] at hj
    by_cases e : j = i
    · subst e
      rw [World.cell?_setCell_same _ _ _ (h.cell j hj)]
      simp [nth, hj]
    · rw [World.cell?_setCell_other _ _ _ _ (by intro e'; simp [adr] at e'; omega), h.cell j hj]
      simp [nth, Ne.symm e]
theorem OwI.blk {w : World} {a : Option Addr} {xs : List Int} {F : List Nat} (h : OwI w a xs F) (h0 : 0 < xs.length) : (∃ g o, a = some ⟨g, o, none⟩) ∧ F = [blk a] := by
  rcases h.foot with ⟨rfl, _⟩ | ⟨_, h2, h3⟩
  · simp at h0
  · exact ⟨h2, h3⟩
set_option maxHeartbeats 2000000 in
theorem moved_c (pc at_ reg by_ : Int) (a : Option Addr) (c : Nat) (regs : List Int) (w : World) (hx : SlI Any w a regs) (l1 : regs.length ≤ 8) (hr : 0 ≤ reg ∧ reg < regs.length) (hv : 0 ≤ nth regs reg.toNat ∧ nth regs reg.toNat ≤ 1000) (hby : -1 ≤ by_ ∧ by_ ≤ 1) :
    Calls Try.prog 182 #[.agg #[.int .i64 pc, .slice a regs.length c], .int .i64 at_, .int .i64 reg, .int .i64 by_] w (RetA w [.i at_, dI (regs.set reg.toNat (nth regs reg.toNat + by_))]) := by
  obtain ⟨i, rfl⟩ : ∃ i : Nat, reg = i := ⟨reg.toNat, by omega⟩
  rw [Int.toNat_natCast] at hv ⊢
  have hi : i < regs.length := by omega
  obtain ⟨ad, rfl⟩ := hx.addr (by omega)
  have hb0 : Below w.heap.size w ((w.alloc (.cells #[.int .i64 pc, .slice (some ad) regs.length c] 78)).alloc (.cells #[.int .i64 0, .slice none 0 0] 78)) := ((Below.refl _ _).alloc (Nat.le_refl _) _).alloc (by simp) _
  have HC := Lib.hid (clone_c Any ad c regs _ (hx.below hb0) (by omega))
  have HB0 := Lib.hid hb0
  clear hb0 hx
  go_enter Try.func182, Try.ntmps182
  go_wp2_with fail
  refine HC.out.mono ?_
  rintro e w1 ⟨v1, F1, rfl, hb1, ho1, hn1, hF1⟩
  obtain ⟨a1, c1, rfl, hcp, hoi⟩ := Ow_I.1 ho1
  obtain ⟨⟨g, o, rfl⟩, hFe⟩ := hoi.blk (by omega)
  have hgF : g ∈ F1 := by rw [hFe]; simp [blk]
  have hg1 : g < w1.heap.size := Ow.lt _ _ _ ho1 g hgF
  have hg2 : w.heap.size + 1 < g := by have := hF1 g hgF; simp at this; omega
  have hv1 : w.heap.size + 1 < w1.heap.size := by omega
  have hu1 : w.heap.size < w1.heap.size := by omega
  have n1 : ¬ w1.heap.size = g := by omega
  have n2 : ¬ g = w1.heap.size := by omega
  have n3 : ¬ w.heap.size + 1 = g := by omega
  have n4 : ¬ g = w.heap.size + 1 := by omega
  have n5 : ¬ w.heap.size + 1 = w1.heap.size := by omega
  have n6 : ¬ w1.heap.size = w.heap.size + 1 := by omega
  have f0 : w1.cell? ⟨g, o + i, none⟩ = some (.int .i64 (nth regs i)) := hoi.cell i hi
  have z0 : w1.frozen? ⟨g, o + i, none⟩ = false := hoi.free i hi
  have r0 : w1.cell? ⟨w.heap.size + 1, 0, none⟩ = some (.int .i64 0) := by rw [bcell1 hb1 (by simp)]; simp [go_sem]
  have r1 : w1.cell? ⟨w.heap.size + 1, 1, none⟩ = some (.slice none 0 0) := by rw [bcell1 hb1 (by simp)]; simp [go_sem]
  have s0 : w1.frozen? ⟨w.heap.size + 1, 0, none⟩ = false := by rw [hb1.frozen (p := ⟨w.heap.size + 1, 0, none⟩) (by simp)]; simp [go_sem]
  have s1 : w1.frozen? ⟨w.heap.size + 1, 1, none⟩ = false := by rw [hb1.frozen (p := ⟨w.heap.size + 1, 1, none⟩) (by simp)]; simp [go_sem]
  have i1 := ix_of (P := Try.prog) tabI.under tabI.size (a := some ⟨g, o, none⟩) (n := regs.length) (fun _ => ⟨g, o, rfl⟩) c1
  simp only [Nat.mul_one, adr, blk, ofs] at i1
  have hi2 : (i : Int) < regs.length := by omega
  have HO1 := Lib.hid ho1
  have HN1 := Lib.hid hn1
  have HF1 : Hid (∀ x, x ∈ F1 → w.heap.size + 1 < x) := Lib.hid (fun x hx => by have := hF1 x hx; simp at this; omega)
  have HB1 : Hid (Below w.heap.size w w1) := Lib.hid (HB0.out.trans (hb1.mono (by simp <;> omega)))
  have HLT : Hid (∀ x, x ∈ F1 → x < w1.heap.size) := Lib.hid (Ow.lt _ _ _ ho1)
  clear hb1 ho1 hn1 hF1 hoi hFe hgF
  go_wp2
  refine bodyPost_end (v := .agg #[.int .i64 at_, .slice (some ⟨g, o, none⟩) regs.length c1]) (by simp [results, Try.results182, go_sem, hv1, r0, r1]) rfl ?_
  have hset : ∀ wz : World, OwI wz (some ⟨g, o, none⟩) regs F1 → Ow (wz.setCell ⟨g, o + i, none⟩ (.int .i64 (nth regs i + by_))) (dI (regs.set i (nth regs i + by_))) (.slice (some ⟨g, o, none⟩) regs.length c1) F1 := fun wz h =>
    Ow_I.2 ⟨_, c1, by simp, by simpa using hcp, h.set hi _⟩
  refine ⟨_, F1 ++ [], rfl, ?be, ⟨[], _, ⟨rfl, rfl⟩, ⟨F1, _, ?ow, rfl, rfl⟩, rfl⟩, by simpa using HN1.out, fun x hx => by have := HF1.out x (by simpa using hx); omega⟩
  case be => repeat (first | exact HB1.out | refine Below.setCell ?_ (by simp <;> omega) _ | refine Below.alloc ?_ (by simp <;> omega) _)
  case ow =>
    have nb1 : w.heap.size + 1 ∉ F1 := fun hx => Nat.lt_irrefl _ (HF1.out _ hx)
    have nb2 : w1.heap.size ∉ F1 := fun hx => Nat.lt_irrefl _ (HLT.out _ hx)
    repeat (first | exact hset _ HO1.out.own | exact hset _ (Ow.own (Ow.setCell (Ow.setCell (HO1.out.below (below_alloc w1 _)) (p := ⟨w1.heap.size, 0, none⟩) nb2 _) (p := ⟨w1.heap.size, 1, none⟩) nb2 _)) | exact hset _ (Ow.own (HO1.out.below (below_alloc w1 _))) | refine Ow.setCell ?_ nb1 _ | refine Ow.setCell ?_ nb2 _ | refine Ow.below ?_ (below_alloc _ _))
end Go.Proofs.Ytdcpdipakglnnaa
