/- The table of powers, out of what the row lists. -/
import Derived.Test.YtkbhdpkheincoaaDoorTW
import Derived.Test.YtkbhdpkheincoaaDoorFD
import Derived.Lib.LaidTab
import Derived.Stop.LaidErr
namespace Go.Proofs.YtkbhdpkheincoaaDoor
open Go.RowKit

theorem pow_eq : (DataW.agg [.lit (.int .u64 1), .lit (.int .u64 10), .lit (.int .u64 100), .lit (.int .u64 1000), .lit (.int .u64 10000), .lit (.int .u64 100000), .lit (.int .u64 1000000), .lit (.int .u64 10000000), .lit (.int .u64 100000000), .lit (.int .u64 1000000000), .lit (.int .u64 10000000000), .lit (.int .u64 100000000000), .lit (.int .u64 1000000000000), .lit (.int .u64 10000000000000), .lit (.int .u64 100000000000000), .lit (.int .u64 1000000000000000), .lit (.int .u64 10000000000000000), .lit (.int .u64 100000000000000000), .lit (.int .u64 1000000000000000000), .lit (.int .u64 10000000000000000000)] : DataW Unit) = Lib.tabData .u64 Lib.pow10Tab := by
  simp [Lib.tabData, Lib.pow10Tab, List.range, List.range.loop]
/- For the text of a passing system (7). -/
theorem pow_of {W : World} (h : laidMetH Tryd.prog Rows.fnExactPassingTextRow.laid W) : PowAt W := by
  rw [MakeChecks.laidMetH_plain _ _ _ (by kernel_rfl)] at h
  have h3 := h.tail.tail
  change laidMet Tryd.prog [("internal/strconv.uint64pow10", DataW.agg _)] W at h3
  rw [pow_eq] at h3
  exact Lib.tabIs_of_head (g := 0) (t := 92) (e := 84) (n := 20) (by kernel_rfl) (by kernel_rfl) Tryd.underlying92 Tryd.underlying84 (by kernel_rfl) (by kernel_rfl) h3
end Go.Proofs.YtkbhdpkheincoaaDoor
