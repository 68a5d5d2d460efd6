import Derived.Test.YtkpicemjiokdpaaDoorLst
namespace Go.Proofs.YtkpicemjiokdpaaDoor
set_option linter.unusedSimpArgs false
set_option linter.unusedVariables false
open Go.RowKit


end Go.Proofs.YtkpicemjiokdpaaDoor
