/- What the library needs, out of what the row lists and the world's shape. -/
import Derived.Test.YtbnikblhnibgiaaDoorNE
import Derived.Test.YtbnikblhnibgiaaDoorTV
import Derived.Test.YtbnikblhnibgiaaDoorFE
import Derived.Shelf.Vars
import Derived.Stop.LaidErr
namespace Go.Proofs.YtbnikblhnibgiaaDoor
open Go.RowKit
theorem starErr : "*" ++ "errors.errorString" = "*errors.errorString" := by decide
theorem rowErr (u : TypeId) (h : Tryd.prog.typeName? 3 u = some "*errors.errorString") : u = 133 :=
  typeName_ptr_named (nm := "errors.errorString") (by rw [starErr]; kernel_rfl) (by kernel_rfl) (by decide) u (by rw [starErr]; exact h)
theorem lib_ofL {W : World} {r : List (String × DataW Unit)} {d32 d64 acc : DataW Unit} {t1 t2 : List UInt8}
    (h : laidMet Tryd.prog (("math/bits.deBruijn32tab", d32) :: ("math/bits.deBruijn64tab", d64) :: ("internal/strconv.uint64pow10", Lib.tabData .u64 Lib.pow10Tab) :: ("unicode/utf8.acceptRanges", acc) ::
      ("strconv.ErrRange", .iface "*errors.errorString" (.ptr (.agg [.lit (.string t1)]))) :: ("strconv.ErrSyntax", .iface "*errors.errorString" (.ptr (.agg [.lit (.string t2)]))) :: r) W) (hs : W.ShapedOpen Tryd.prog) : LibOk W := by
  have h5 := h.tail.tail.tail.tail
  obtain ⟨a1, s1, hv1, _⟩ := laid_sentinel (g := 1) h5 (by kernel_rfl) (by kernel_rfl) Tryd.underlying69 rowErr Tryd.underlying133 Tryd.underlying135 rfl rfl Tryd.underlying9 (by kernel_rfl) (by kernel_rfl)
  obtain ⟨a2, s2, hv2, _⟩ := laid_sentinel (g := 0) h5.tail (by kernel_rfl) (by kernel_rfl) Tryd.underlying69 rowErr Tryd.underlying133 Tryd.underlying135 rfl rfl Tryd.underlying9 (by kernel_rfl) (by kernel_rfl)
  refine ⟨Tryd.laysM146.s1_3 W hs, ⟨_, (World.var?_cell (by kernel_rfl) hv2 0).trans rfl, .inr ⟨_, _, rfl⟩⟩, ⟨_, (World.var?_cell (by kernel_rfl) hv1 0).trans rfl, .inr ⟨_, _, rfl⟩⟩, ?_⟩
  exact Lib.tabIs_of_head (g := 3) (t := 138) (e := 80) (n := 20) (by kernel_rfl) (by kernel_rfl) Tryd.underlying138 Tryd.underlying80 (by kernel_rfl) (by kernel_rfl) h.tail.tail
/- For the reader of bags (3). -/
theorem lib_ofBag {W : World} (h : laidMetH Tryd.prog Rows.fnExactReadBagRow.laid W) (hs : W.ShapedOpen Tryd.prog) : LibOk W := by
  rw [MakeChecks.laidMetH_plain _ _ _ (by kernel_rfl)] at h
  change laidMet Tryd.prog (_ :: _ :: ("internal/strconv.uint64pow10", DataW.agg _) :: _) W at h
  rw [pow_eq] at h
  exact lib_ofL h hs
/- For its row (4). -/
theorem lib_ofBagText {W : World} (h : laidMetH Tryd.prog Rows.fnBagTextRow.laid W) (hs : W.ShapedOpen Tryd.prog) : LibOk W := by
  rw [MakeChecks.laidMetH_plain _ _ _ (by kernel_rfl)] at h
  change laidMet Tryd.prog (_ :: _ :: ("internal/strconv.uint64pow10", DataW.agg _) :: _) W at h
  rw [pow_eq] at h
  exact lib_ofL h hs
/- For its row (5). -/
theorem lib_ofReadProgram {W : World} (h : laidMetH Tryd.prog Rows.fnExactReadProgramRow.laid W) (hs : W.ShapedOpen Tryd.prog) : LibOk W := by
  rw [MakeChecks.laidMetH_plain _ _ _ (by kernel_rfl)] at h
  change laidMet Tryd.prog (_ :: _ :: ("internal/strconv.uint64pow10", DataW.agg _) :: _) W at h
  rw [pow_eq] at h
  exact lib_ofL h hs
end Go.Proofs.YtbnikblhnibgiaaDoor
