/- Contracts of the functions on programs: valid, equal, copied, compared. -/
import Derived.Test.YtkbhdpkheincoaaDoorD
import Derived.Test.YtkbhdpkheincoaaDoorP
namespace Go.Proofs.YtkbhdpkheincoaaDoor
open Go.RowKit

