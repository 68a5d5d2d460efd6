import Derived.Test.YtkohfegajcmdbaaLaw
namespace Go.Proofs.Ytkohfegajcmdbaa
set_option linter.unusedSimpArgs false
set_option linter.unusedVariables false
open Go.RowKit

end Go.Proofs.Ytkohfegajcmdbaa
