/- Contracts of the exported functions on bags (first part). -/
import Derived.Test.YthlbogmnnenkoaaD
namespace Go.Proofs.Ythlbogmnnenkoaa
open Go.RowKit

/-- What becomes of a list that must be a bag. -/
def Told (w : World) (a : Option Addr) (xs : List Int) (c : Nat) (e : Ending) (w' : World) : Prop :=
  Below w.heap.size w w' ∧ ((isBagS xs = true ∧ e = .returned (.tuple #[.slice a xs.length c, .int .i64 0])) ∨ (isBagS xs = false ∧ ∃ a' c', e = .returned (.tuple #[.slice a' 0 c', .int .i64 3])))
theorem Told.dc {w0 w w' : World} {a : Option Addr} {xs : List Int} {c : Nat} {e : Ending} {F : List Nat} (h : Told w a xs c e w') (ho : Ow w (dI xs) (.slice a xs.length c) F) (hn : F.Nodup) (hF : ∀ g, g ∈ F → w0.heap.size ≤ g) (hb : Below w0.heap.size w0 w) :
    RetDC w0 (dI (toldS xs).1) (toldS xs).2 e w' := by
  obtain ⟨h1, ⟨h2, rfl⟩ | ⟨h2, a', c', rfl⟩⟩ := h
  · simp only [toldS, h2, if_true]
    exact ⟨_, F, rfl, bnext hb h1 (Nat.le_refl _), Ow.stable _ _ F (fun k hk => h1.block k (Ow.lt _ _ F ho k hk)) ho, hn, hF⟩
  · simp only [toldS, h2, Bool.false_eq_true, if_false]
    exact RetDC.none a' c' 3 (bnext hb h1 (Nat.le_refl _))
theorem bagOrLimit_c (S : Nat → Prop) (a : Option Addr) (c : Nat) (xs : List Int) (w : World) (hx : SlI S w a xs) :
    Calls Try.prog 147 #[.slice a xs.length c] w (Told w a xs c) := by
  cases h : isBagS xs
  · have H := Lib.hid h
    clear h
    go_enter Try.func147, Try.ntmps147
    go_wp2_with fail
    refine (isBag_c S _ _ _ _ hx).mono ?_
    rintro e w' ⟨rfl, rfl⟩
    rw [H.out]
    go_wp2
    go_ret2
    exact ⟨Below.refl _ _, .inr ⟨H.out, _, _, rfl⟩⟩
  · have H := Lib.hid h
    clear h
    go_enter Try.func147, Try.ntmps147
    go_wp2_with fail
    refine (isBag_c S _ _ _ _ hx).mono ?_
    rintro e w' ⟨rfl, rfl⟩
    rw [H.out]
    go_wp2
    go_ret2
    exact ⟨Below.refl _ _, .inl ⟨H.out, rfl⟩⟩
theorem implBagSize_c (S : Nat → Prop) (a : Option Addr) (c : Nat) (xs : List Int) (w : World) (hx : SlI S w a xs) :
    Calls Try.prog 52 #[.slice a xs.length c] w (RetP w (.tuple #[.int .i64 (bagSizeS xs).1, .int .i64 (bagSizeS xs).2])) := by
  cases h : isBagS xs
  · have H := Lib.hid h
    clear h
    go_enter Try.func52, Try.ntmps52
    go_wp2_with fail
    refine (isBag_c S _ _ _ _ hx).mono ?_
    rintro e w' ⟨rfl, rfl⟩
    rw [H.out]
    go_wp2
    go_ret2
    exact ⟨by simp [bagSizeS, H.out], rfl⟩
  · have H := Lib.hid h
    clear h
    go_enter Try.func52, Try.ntmps52
    go_wp2_with fail
    refine (isBag_c S _ _ _ _ hx).mono ?_
    rintro e w' ⟨rfl, rfl⟩
    rw [H.out]
    go_wp2_with fail
    refine (bagSize_c S _ _ _ _ hx).mono ?_
    rintro e w' ⟨rfl, rfl⟩
    go_wp2
    go_ret2
    exact ⟨by simp [bagSizeS, H.out], rfl⟩
theorem implIsWithin_c (S : Nat → Prop) (a b : Option Addr) (c c' : Nat) (xs ys : List Int) (w : World) (hx : SlI S w a xs) (hy : SlI S w b ys) :
    Calls Try.prog 48 #[.slice a xs.length c, .slice b ys.length c'] w (RetP w (.tuple #[.bool (isWithinS xs ys).1, .int .i64 (isWithinS xs ys).2])) := by
  cases h : (twoS xs ys != 0)
  · have H0 : twoS xs ys = 0 := by simpa using h
    have H1 := Lib.hid (twoS_ok H0).2.2
    have H2 := Lib.hid H0
    clear H0
    go_enter Try.func48, Try.ntmps48
    go_wp2_with fail
    refine (twoBags_c S _ _ _ _ _ _ _ hx hy).mono ?_
    rintro e w' ⟨rfl, rfl⟩
    go_wp2_with fail
    refine (isWithin_c S _ _ _ _ _ _ _ hx hy (Nat.le_of_eq H1.out)).mono ?_
    rintro e w' ⟨rfl, rfl⟩
    clear h
    go_wp2
    go_ret2
    exact ⟨by simp [isWithinS, H2.out], rfl⟩
  · have H0 : ¬ twoS xs ys = 0 := by simpa using h
    have H2 := Lib.hid H0
    clear H0
    go_enter Try.func48, Try.ntmps48
    go_wp2_with fail
    refine (twoBags_c S _ _ _ _ _ _ _ hx hy).mono ?_
    rintro e w' ⟨rfl, rfl⟩
    go_wp2
    go_ret2
    exact ⟨by simp [isWithinS, H2.out], rfl⟩
end Go.Proofs.Ythlbogmnnenkoaa
