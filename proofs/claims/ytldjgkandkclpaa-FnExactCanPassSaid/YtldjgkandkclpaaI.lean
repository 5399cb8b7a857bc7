/- Contracts of the exported functions on bags (second part): weigh, join, meet, scale, add, take. -/
import Derived.Test.YtldjgkandkclpaaE
namespace Go.Proofs.Ytldjgkandkclpaa
open Go.RowKit

theorem weigh1_c (x y : Int) (w : World) : Calls Try.prog 151 #[.int .i64 x, .int .i64 y] w (RetP w (.int .i64 (mulW x y))) := by
  go_enter Try.func151, Try.ntmps151
  go_wp2
  go_ret
  exact ⟨rfl, rfl⟩
theorem weigh_c (S : Nat → Prop) (a b : Option Addr) (c c' : Nat) (xs ys : List Int) (w : World) (hx : SlI S w a xs) (hy : SlI S w b ys) (hl : xs.length ≤ ys.length) (l1 : xs.length ≤ 4294967296) :
    Calls Try.prog 93 #[.slice a xs.length c, .slice b ys.length c'] w (RetV w (.int .i64 (weighS xs ys))) := by
  go_enter Try.func93, Try.ntmps93
  go_wp2_with fail
  refine (both_c 151 #[] mulW (callFunc_run Try.func151 (by kernel_rfl) rfl) S a b c c' xs ys w hx hy hl l1 (Lib.hid fun x y w' _ => weigh1_c x y w')).mono ?_
  rintro e w1 ⟨v, F, rfl, hb, ho, _, _⟩
  obtain ⟨a1, c1, rfl⟩ := ho.val
  go_wp2_with fail
  refine (bagSize_c Any _ _ _ _ ho.arg).mono ?_
  rintro e w' ⟨rfl, rfl⟩
  go_wp2
  go_ret
  exact ⟨rfl, hb⟩
