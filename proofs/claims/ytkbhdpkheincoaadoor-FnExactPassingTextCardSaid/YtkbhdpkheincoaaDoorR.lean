/- Contracts of the reference's and the laws' functions on programs. -/
import Derived.Test.YtkbhdpkheincoaaDoorQ
namespace Go.Proofs.YtkbhdpkheincoaaDoor
open Go.RowKit

theorem l00In_v {a b c : Int} {v : Bool} (h : inRg a b c = v) (w : World) : Calls Tryd.prog 24 #[.int .i64 a, .int .i64 b, .int .i64 c] w (RetP w (.bool v)) := by
  subst h; exact l00In_c a b c w
