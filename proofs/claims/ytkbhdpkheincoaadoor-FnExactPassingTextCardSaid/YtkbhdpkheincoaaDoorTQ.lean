/- The text of a system that passes objects: what it is. -/
import Derived.Test.YtkbhdpkheincoaaDoorTW
import Derived.Test.YtkbhdpkheincoaaDoorQC
import Derived.Test.YtkbhdpkheincoaaDoorPY
namespace Go.Proofs.YtkbhdpkheincoaaDoor
open Go.RowKit

def passP (K : Nat) (x1 : List Int) : Nat → ByteArray
  | 0 => ⟨#[112, 97, 115, 115, 105, 110, 103, 32]⟩ ++ ⟨(decL K).toArray⟩ ++ ⟨#[10, 99, 101, 108, 108, 115, 32, 45]⟩
  | k + 1 => passP K x1 k ++ (⟨#[32]⟩ ++ ⟨(decL (nth x1 (k + 1)).toNat).toArray⟩)
def freeL (x2 : List Bool) : Nat → List UInt8
  | 0 => []
  | k + 1 => if nthB x2 k = true then freeL x2 k ++ [UInt8.ofNat (97 + k)] else freeL x2 k
def freeB (x2 : List Bool) : ByteArray := if freeL x2 x2.length = [] then ⟨#[45]⟩ else ⟨(freeL x2 x2.length).toArray⟩
def ruleT (r : PR) : ByteArray := ⟨#[112, 97, 115, 115, 32]⟩ ++ ⟨(decL r.cell.toNat).toArray⟩ ++ ⟨#[32]⟩ ++ bagTextT r.out ++ ⟨#[32, 47, 32]⟩ ++ bagTextT r.inn ++ ⟨#[10]⟩
def passR (K : Nat) (x1 : List Int) (x2 : List Bool) (x3 : List PR) : Nat → ByteArray
  | 0 => passP K x1 (x1.length - 1) ++ (⟨#[10, 102, 114, 101, 101, 32]⟩ ++ freeB x2 ++ ⟨#[10]⟩)
  | k + 1 => passR K x1 x2 x3 k ++ ruleT (nthPR x3 k)
def passT (x0 : Int) (x1 : List Int) (x2 : List Bool) (x3 : List PR) : ByteArray := if okPass x0 x1 x2 x3 = true then passR x0.toNat x1 x2 x3 x3.length else ⟨#[]⟩
theorem decLB_size (i : Nat) : (⟨(decL i).toArray⟩ : ByteArray).size = 1 := rfl
theorem passP_size (K : Nat) (x1 : List Int) : ∀ k, (passP K x1 k).size = 17 + 2 * k
  | 0 => rfl
  | k + 1 => by
    have h3 : (ByteArray.mk #[32]).size = 1 := rfl
    rw [passP, ByteArray.size_append, ByteArray.size_append, passP_size K x1 k, decLB_size, h3]; omega
theorem freeL_len (x2 : List Bool) : ∀ k, (freeL x2 k).length ≤ k
  | 0 => Nat.le_refl 0
  | k + 1 => by
    have := freeL_len x2 k
    unfold freeL
    split
    · simp; omega
    · omega
theorem freeB_size (x2 : List Bool) (h : x2.length ≤ 8) : (freeB x2).size ≤ 8 := by
  unfold freeB
  split
  · decide
  · have := freeL_len x2 x2.length
    have e : (⟨(freeL x2 x2.length).toArray⟩ : ByteArray).size = (freeL x2 x2.length).length := by show (List.toArray _).size = _; simp
    omega
theorem bagText_size {b : List Int} (h8 : b.length ≤ 8) (hb : ∀ j, 0 ≤ nth b j ∧ nth b j ≤ 1000) : (bagTextT b).size ≤ 48 := by
  have := outT_size (b := b) (fun j => (hb j).2) b.length
  unfold bagTextT
  split
  · decide
  · omega
theorem ruleT_size {r : PR} (h1 : r.out.length ≤ 8) (h2 : r.inn.length ≤ 8) (b1 : ∀ j, 0 ≤ nth r.out j ∧ nth r.out j ≤ 1000) (b2 : ∀ j, 0 ≤ nth r.inn j ∧ nth r.inn j ≤ 1000) : (ruleT r).size ≤ 110 := by
  have q1 := bagText_size h1 b1
  have q2 := bagText_size h2 b2
  have h3 : (ByteArray.mk #[112, 97, 115, 115, 32]).size = 5 := rfl
  have h4 : (ByteArray.mk #[32]).size = 1 := rfl
  have h5 : (ByteArray.mk #[32, 47, 32]).size = 3 := rfl
  have h6 : (ByteArray.mk #[10]).size = 1 := rfl
  rw [ruleT]
  simp only [ByteArray.size_append, h3, h4, h5, h6, decLB_size]
  omega
theorem PsOk.bags {K : Nat} {x1 : List Int} {x2 : List Bool} {x3 : List PR} (h : PsOk K x1 x2 x3) {i : Nat} (hi : i < x3.length) : (nthPR x3 i).out.length ≤ 8 ∧ (nthPR x3 i).inn.length ≤ 8 ∧ (∀ j, 0 ≤ nth (nthPR x3 i).out j ∧ nth (nthPR x3 i).out j ≤ 1000) ∧ (∀ j, 0 ≤ nth (nthPR x3 i).inn j ∧ nth (nthPR x3 i).inn j ≤ 1000) ∧ isBagS (nthPR x3 i).out = true ∧ isBagS (nthPR x3 i).inn = true := by
  have o1 := h.out i hi
  have o2 := h.inn i hi
  exact ⟨(isBagS_ok o1.1).1, (isBagS_ok o2.1).1, (isBagS_ok o1.1).2, (isBagS_ok o2.1).2, o1.1, o2.1⟩
theorem passR_size {K : Nat} {x1 : List Int} {x2 : List Bool} {x3 : List PR} (h : PsOk K x1 x2 x3) : ∀ k, k ≤ x3.length → (passR K x1 x2 x3 k).size ≤ 60 + 110 * k
  | 0, _ => by
    have h1 := passP_size K x1 (x1.length - 1)
    have h2 := freeB_size x2 (by have := h.free; have := h.k8; omega)
    have h3 : (ByteArray.mk #[10, 102, 114, 101, 101, 32]).size = 6 := rfl
    have h4 : (ByteArray.mk #[10]).size = 1 := rfl
    have := h.p4
    rw [passR]
    simp only [ByteArray.size_append, h1, h3, h4]
    omega
  | k + 1, hk => by
    have ih := passR_size h k (by omega)
    obtain ⟨q1, q2, q3, q4, _⟩ := h.bags (i := k) (by omega)
    have := ruleT_size q1 q2 q3 q4
    rw [passR, ByteArray.size_append]; omega
theorem retB_bag {b : List Int} (h : isBagS b = true) : bagT b = bagTextT b := by rw [bagT, if_pos h]
end Go.Proofs.YtkbhdpkheincoaaDoor
