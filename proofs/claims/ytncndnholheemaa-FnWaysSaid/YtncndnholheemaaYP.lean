/- The laws' functions on passing systems and stocks: by shape. Written by tygen.py. -/
import Derived.Test.YtncndnholheemaaYA
namespace Go.Proofs.Ytncndnholheemaa
open Go.RowKit

theorem tabPassRuleSM : Tab Try.prog 26 96 (.agg #[.int .i64 0, .slice none 0 0, .slice none 0 0]) 3 56 := ⟨by kernel_rfl, by kernel_rfl⟩
