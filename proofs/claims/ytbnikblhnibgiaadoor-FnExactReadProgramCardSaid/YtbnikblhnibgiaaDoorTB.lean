/- The text of a bag: what it is; the reference's functions. -/
import Derived.Test.YtbnikblhnibgiaaDoorTE
import Derived.Test.YtbnikblhnibgiaaDoorE
namespace Go.Proofs.YtbnikblhnibgiaaDoor
open Go.RowKit

/-- The text of so many objects of a kind. -/
def wordT (k : Nat) (m : Nat) : ByteArray := ⟨#[UInt8.ofNat (97 + k)]⟩ ++ (if 1 < m then decN m else ⟨#[]⟩)
theorem wordT_size {k m : Nat} (h : m < 10000) : (wordT k m).size ≤ 5 ∧ 1 ≤ (wordT k m).size := by
  have h1 : (ByteArray.mk #[UInt8.ofNat (97 + k)]).size = 1 := rfl
  have h2 : (ByteArray.mk #[]).size = 0 := rfl
  have h3 := decN_size h
  unfold wordT
  rw [ByteArray.size_append, h1]
  split <;> omega
/-- The text of the first k kinds, as it grows. -/
def outT (b : List Int) : Nat → ByteArray
  | 0 => ⟨#[]⟩
  | k + 1 => if nth b k = 0 then outT b k else (if (outT b k).size = 0 then wordT k (nth b k).toNat else outT b k ++ (⟨#[32]⟩ ++ wordT k (nth b k).toNat))
def bagTextT (b : List Int) : ByteArray := if (outT b b.length).size = 0 then ⟨#[45]⟩ else outT b b.length
def bagT (b : List Int) : ByteArray := if isBagS b = true then bagTextT b else ⟨#[]⟩
theorem outT_size {b : List Int} (h : ∀ j, nth b j ≤ 1000) : ∀ k, (outT b k).size ≤ 6 * k
  | 0 => Nat.le_refl 0
  | k + 1 => by
    have h1 := outT_size h k
    have h2 := (wordT_size (k := k) (m := (nth b k).toNat) (by have := h k; omega)).1
    have h3 : (ByteArray.mk #[32]).size = 1 := rfl
    unfold outT
    split
    · omega
    · split
      · omega
      · rw [ByteArray.size_append, ByteArray.size_append, h3]; omega
theorem empty_of_size {b : ByteArray} (h : b.size = 0) : b = ⟨#[]⟩ := by
  apply ByteArray.ext
  exact Array.eq_empty_of_size_eq_zero h
theorem append_nil (b : ByteArray) : b ++ ⟨#[]⟩ = b := by
  apply ByteArray.ext
  simp [ByteArray.data_append]
theorem nil_append (b : ByteArray) : ⟨#[]⟩ ++ b = b := by
  apply ByteArray.ext
  simp [ByteArray.data_append]
theorem toList_nil {b : ByteArray} (h : b.size = 0) : b.toList = [] := by rw [empty_of_size h, ByteArray.toList_eq]
theorem toList_ne {b : ByteArray} (h : b.size ≠ 0) : b.toList ≠ [] := by
  rw [ByteArray.toList_eq]
  intro e
  apply h
  have : b.data.toList.length = 0 := by rw [e]; rfl
  simpa using this
theorem ret_strB {a b : ByteArray} (h : a = b) : Ending.returned (.string a) = .returned (.string b) := by rw [h]
theorem convK (k : Nat) (hk : k < 100) (g : Nat) (wx : World) (h : wx.cell? ⟨g, 0, none⟩ = some (.int .u8 (97 + (k : Int)))) : (convert 28 9 (.slice (some ⟨g, 0, none⟩) 1 1)).run Tryd.prog wx = .ok (.string ⟨#[UInt8.ofNat (97 + k)]⟩) wx :=
  run_convert_bytes_back (P := Tryd.prog) wx 28 9 5 ⟨g, 0, none⟩ 1 [UInt8.ofNat (97 + k)] Tryd.underlying28 Tryd.underlying5 Tryd.underlying9 (fun j hj => by
    have : j = 0 := by simp at hj; omega
    subst this
    rw [show (⟨g, 0, none⟩ : Addr).add 0 = ⟨g, 0, none⟩ from rfl, h]
    simp; omega)
set_option maxHeartbeats 4000000 in
set_option maxRecDepth 100000 in
theorem l01Text_c (a : Option Addr) (c : Nat) (b : List Int) (w : World) (hx : SlI Any w a b) (h8 : b.length ≤ 8) (hb : ∀ j, 0 ≤ nth b j ∧ nth b j ≤ 1000) :
    Calls Tryd.prog 32 #[.slice a b.length c] w (RetV w (.string (bagTextT b))) := by
  have i1 := hx.ix tabI.under tabI.size c
  have HX := Lib.hid hx
  have HB := Lib.hid hb
  have HSZ := Lib.hid (outT_size (b := b) (fun j => (hb j).2))
  have HO0 : Hid (outT b 0 = ⟨#[]⟩) := Lib.hid rfl
  clear hx hb
  go_enter Tryd.func32, Tryd.ntmps32
  go_wp2
  go_loopw [3, 4] (fun s i wr => ∃ k : Nat, k ≤ b.length ∧ i = .int .i64 k ∧ s = .string (outT b k) ∧ Hid (Below w.heap.size w wr)) (fun _ i _ => b.length - (intOf i).toNat)
  case atStart => exact ⟨0, Nat.zero_le _, rfl, by rw [HO0.out], Lib.hid (Below.refl _ _)⟩
  case round =>
    obtain ⟨k, hk, rfl, rfl, HBW⟩ := hrel
    obtain ⟨x, hx⟩ : ∃ x, x = outT b k := ⟨_, rfl⟩
    have hxs : x.size ≤ 60 := by have := HSZ.out k; rw [hx]; omega
    by_cases hlt : k < b.length
    · have g1 := (HX.out.below HBW.out).cell k hlt
      have hbk := HB.out k
      obtain ⟨m, hm⟩ : ∃ m : Nat, nth b k = (m : Int) := ⟨(nth b k).toNat, by omega⟩
      rw [hm] at g1 hbk
      by_cases h0 : m = 0
      · subst h0
        have HN : Hid (outT b (k + 1) = x) := Lib.hid (by rw [outT, if_pos (by rw [hm]; rfl), hx])
        rw [← hx]
        clear hm hx
        go_wp2
        first
          | (go_roundw
             case rel => exact ⟨k + 1, by omega, by go_num, by rw [HN.out], HBW⟩
             case measure => simp [intOf]; omega)
          | (refine ⟨⟨k + 1, by omega, by go_num, by rw [HN.out], HBW⟩, ?_⟩
             simp [intOf]; omega)
      · have hkk : k < 100 := by omega
        have e3 : IntKind.u8.wrap (97 + (k : Int)) = 97 + k := by simp [IntKind.wrap, IntKind.bits, IntKind.signed]; omega
        have kc := convK k hkk wr.heap.size (wr.alloc (.cells #[.int .u8 (97 + (k : Int))] 5)) (by simp [go_sem])
        have HD := Lib.hid (fun wx => DecimalN_c m (by omega) wx)
        have hms := (decN_size (i := m) (by omega)).1
        have HW : Hid (wordT k m = ⟨#[UInt8.ofNat (97 + k)]⟩ ++ (if 1 < m then decN m else ⟨#[]⟩)) := Lib.hid rfl
        have HN : Hid (outT b (k + 1) = if x.size = 0 then wordT k m else x ++ (⟨#[32]⟩ ++ wordT k m)) := Lib.hid (by
          rw [outT, if_neg (by rw [hm]; omega), ← hx, hm]; rfl)
        obtain ⟨y, hy⟩ : ∃ y, y = UInt8.ofNat (97 + k) := ⟨_, rfl⟩
        rw [← hy] at kc HW
        obtain ⟨t, ht⟩ : ∃ t, t = decN m := ⟨_, rfl⟩
        rw [← ht] at HD HW hms
        rw [← hx]
        have g2 := fun X => (HX.out.below (HBW.out.alloc HBW.out.size X)).cell k hlt
        rw [hm] at g2
        have hm0 : ¬ (m : Int) = 0 := by omega
        have HBA : Hid (∀ X, Below w.heap.size w (wr.alloc X)) := Lib.hid (fun X => HBW.out.alloc HBW.out.size X)
        clear hm hx hy ht
        by_cases hz : x.size = 0
        · have hl : x.toList = [] := toList_nil hz
          have hx0 := empty_of_size hz
          by_cases h1 : 1 < m
          · have h1' : (1 : Int) < m := by omega
            have HM : Hid (outT b (k + 1) = x ++ ⟨#[y]⟩ ++ t) := Lib.hid (by rw [HN.out, if_pos hz, HW.out, if_pos h1, hx0, nil_append])
            clear hx0
            go_wp2_with fail
            refine (HD.out _).mono ?_
            rintro e w5 ⟨rfl, hb5⟩
            have HB5 : Hid (Below w.heap.size w w5) := Lib.hid (bnext (HBA.out _) hb5 (Nat.le_refl _))
            clear hb5
            go_wp2
            go_roundw
            case rel => exact ⟨k + 1, by omega, by go_num, by rw [HM.out], HB5⟩
            case measure => simp [intOf]; omega
          · have h1' : ¬ (1 : Int) < m := by omega
            have HM : Hid (outT b (k + 1) = x ++ ⟨#[y]⟩) := Lib.hid (by rw [HN.out, if_pos hz, HW.out, if_neg h1, hx0, nil_append, append_nil])
            clear hx0
            go_wp2
            go_roundw
            case rel => exact ⟨k + 1, by omega, by go_num, by rw [HM.out], Lib.hid (HBA.out _)⟩
            case measure => simp [intOf]; omega
        · have hl : x.toList ≠ [] := toList_ne hz
          have hl2 : (x.toList == []) = false := by simpa using hl
          by_cases h1 : 1 < m
          · have h1' : (1 : Int) < m := by omega
            have HM : Hid (outT b (k + 1) = x ++ ⟨#[32]⟩ ++ ⟨#[y]⟩ ++ t) := Lib.hid (by rw [HN.out, if_neg hz, HW.out, if_pos h1]; simp only [ByteArray.append_assoc])
            go_wp2_with fail
            refine (HD.out _).mono ?_
            rintro e w5 ⟨rfl, hb5⟩
            have HB5 : Hid (Below w.heap.size w w5) := Lib.hid (bnext (HBA.out _) hb5 (Nat.le_refl _))
            clear hb5
            go_wp2
            go_roundw
            case rel => exact ⟨k + 1, by omega, by go_num, by rw [HM.out], HB5⟩
            case measure => simp [intOf]; omega
          · have h1' : ¬ (1 : Int) < m := by omega
            have HM : Hid (outT b (k + 1) = x ++ ⟨#[32]⟩ ++ ⟨#[y]⟩) := Lib.hid (by rw [HN.out, if_neg hz, HW.out, if_neg h1, append_nil]; simp only [ByteArray.append_assoc])
            go_wp2
            go_roundw
            case rel => exact ⟨k + 1, by omega, by go_num, by rw [HM.out], Lib.hid (HBA.out _)⟩
            case measure => simp [intOf]; omega
    · obtain rfl : k = b.length := by omega
      rw [← hx]
      by_cases hz : x.size = 0
      · have HT : Hid (bagTextT b = ⟨#[45]⟩) := Lib.hid (by rw [bagTextT, if_pos (by rw [← hx]; exact hz)])
        have hl : x.toList = [] := toList_nil hz
        clear hx
        go_wp2
        go_ret
        exact ⟨ret_strB HT.out.symm, HBW.out⟩
      · have HT : Hid (bagTextT b = x) := Lib.hid (by rw [bagTextT, if_neg (by rw [← hx]; exact hz), hx])
        have hl : x.toList ≠ [] := toList_ne hz
        have hl2 : (x.toList == []) = false := by simpa using hl
        clear hx
        go_wp2
        go_ret
        exact ⟨ret_strB HT.out.symm, HBW.out⟩
end Go.Proofs.YtbnikblhnibgiaaDoor
