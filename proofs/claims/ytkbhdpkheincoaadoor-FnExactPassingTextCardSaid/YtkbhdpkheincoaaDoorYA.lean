/- The laws' functions on lists of lists of numbers: by shape. Written by tygen.py. -/
import Derived.Test.YtkbhdpkheincoaaDoorYB
namespace Go.Proofs.YtkbhdpkheincoaaDoor
open Go.RowKit

