/- Each function of the program answers as its plain counterpart does, where that answers. Conditions: none. -/
import Derived.Test.YtoekgplgehlpjaaGreatDoorMir
import Derived.Test.YtoekgplgehlpjaaGreatDoorLa3
import Derived.Test.YtoekgplgehlpjaaGreatDoorProg
import Derived.Test.YtoekgplgehlpjaaGreatDoorWk2
set_option linter.unusedSimpArgs false
set_option linter.unusedVariables false
set_option linter.unnecessarySimpa false
namespace Go.Proofs.YtoekgplgehlpjaaGreatDoor.Walk
open Go.AV Go.M Go.RowKit Go.Proofs
end Go.Proofs.YtoekgplgehlpjaaGreatDoor.Walk

