import Derived.Test.YtdhgkfmehegeoaaBlow
namespace Go.Proofs.Ytdhgkfmehegeoaa
set_option linter.unusedSimpArgs false
set_option linter.unusedVariables false
open Go.RowKit

end Go.Proofs.Ytdhgkfmehegeoaa
