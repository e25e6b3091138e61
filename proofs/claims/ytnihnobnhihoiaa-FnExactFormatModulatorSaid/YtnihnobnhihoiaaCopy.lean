/- Contracts of slices.Equal, l3Equal and l1Copy. -/
import Derived.Test.YtnihnobnhihoiaaClone
namespace Go.Proofs.Ytnihnobnhihoiaa
open Go.RowKit
set_option linter.unusedVariables false
set_option linter.unusedSimpArgs false
end Go.Proofs.Ytnihnobnhihoiaa
