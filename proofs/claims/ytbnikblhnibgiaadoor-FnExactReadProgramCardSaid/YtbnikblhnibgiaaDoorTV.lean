/- The table of powers, out of what the row lists. -/
import Derived.Test.YtbnikblhnibgiaaDoorTW
import Derived.Test.YtbnikblhnibgiaaDoorFD
import Derived.Lib.LaidTab
import Derived.Stop.LaidErr
namespace Go.Proofs.YtbnikblhnibgiaaDoor
open Go.RowKit

theorem pow_eq : (DataW.agg [.lit (.int .u64 1), .lit (.int .u64 10), .lit (.int .u64 100), .lit (.int .u64 1000), .lit (.int .u64 10000), .lit (.int .u64 100000), .lit (.int .u64 1000000), .lit (.int .u64 10000000), .lit (.int .u64 100000000), .lit (.int .u64 1000000000), .lit (.int .u64 10000000000), .lit (.int .u64 100000000000), .lit (.int .u64 1000000000000), .lit (.int .u64 10000000000000), .lit (.int .u64 100000000000000), .lit (.int .u64 1000000000000000), .lit (.int .u64 10000000000000000), .lit (.int .u64 100000000000000000), .lit (.int .u64 1000000000000000000), .lit (.int .u64 10000000000000000000)] : DataW Unit) = Lib.tabData .u64 Lib.pow10Tab := by
  simp [Lib.tabData, Lib.pow10Tab, List.range, List.range.loop]
