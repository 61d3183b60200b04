/- Each function of the program answers as its plain counterpart does, where that answers. Conditions: none. -/
import Derived.Test.YtgeaoceiacdadaaGreatDoorMir
import Derived.Test.YtgeaoceiacdadaaGreatDoorProg
import Derived.Test.YtgeaoceiacdadaaGreatDoorWk2
set_option linter.unusedSimpArgs false
set_option linter.unusedVariables false
set_option linter.unnecessarySimpa false
namespace Go.Proofs.YtgeaoceiacdadaaGreatDoor.Walk
open Go.AV Go.M Go.RowKit Go.Proofs
end Go.Proofs.YtgeaoceiacdadaaGreatDoor.Walk

