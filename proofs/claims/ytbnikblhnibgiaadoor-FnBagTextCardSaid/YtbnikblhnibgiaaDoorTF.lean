/- What FnBagText needs of a small bag: its text is read as the bag, the text and a blank isn't read. -/
import Derived.Test.YtbnikblhnibgiaaDoorNI
import Derived.Test.YtbnikblhnibgiaaDoorNC
namespace Go.Proofs.YtbnikblhnibgiaaDoor
theorem append_L (x y : ByteArray) : (x ++ y).data.toList = x.data.toList ++ y.data.toList := by rw [ByteArray.data_append, Array.toList_append]
theorem text_facts {b : List Int} (h1 : 1 ≤ b.length) (h4 : b.length ≤ 4) (hb : ∀ j, j < b.length → 0 ≤ nth b j ∧ nth b j ≤ 6) :
    (bagT b).size ≤ 48 ∧ readBagS b.length (bagT b).data.toList = (b, 0) ∧ readBagS b.length (bagT b ++ ⟨#[32]⟩).data.toList = ([], 5) ∧ validBagS b.length b = true ∧ validBagS (b.length + 1) b = false := by
  have hbA : ∀ j, 0 ≤ nth b j ∧ nth b j ≤ 1000 := fun j => by
    by_cases h : j < b.length
    · have := hb j h; omega
    · have e : nth b j = 0 := by simp [nth, Nat.le_of_not_lt h]
      rw [e]; omega
  have hi : isBagS b = true := bagS_of h1 (by omega) hbA
  have e : bagT b = bagTextT b := by rw [bagT, if_pos hi]
  have hr : inRg (b.length : Int) 1 8 = true := by simp [inRg]; omega
  have hL := bagT_L hbA
  refine ⟨?_, ?_, ?_, by simp [validBagS, hi], by simp [validBagS]; omega⟩
  · rw [e]
    unfold bagTextT
    have := outT_size (b := b) (fun j => (hbA j).2) b.length
    have h5 : (ByteArray.mk #[45]).size = 1 := rfl
    split <;> omega
  · rw [readBagS, if_pos hr, e, hL, Int.toNat_natCast, read_text (by omega) rfl hbA]
  · rw [readBagS, if_pos hr, e, append_L, hL, Int.toNat_natCast]
    have h9 : (ByteArray.mk #[32]).data.toList = [32] := rfl
    rw [h9, read_blank (by omega)]
end Go.Proofs.YtbnikblhnibgiaaDoor
