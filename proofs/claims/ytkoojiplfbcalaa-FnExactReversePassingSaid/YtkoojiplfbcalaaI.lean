/- Contracts of the exported functions on bags (second part): weigh, join, meet, scale, add, take. -/
import Derived.Test.YtkoojiplfbcalaaE
namespace Go.Proofs.Ytkoojiplfbcalaa
open Go.RowKit

