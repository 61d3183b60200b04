/- Each function of the program answers as its plain counterpart does, where that answers. Conditions: none. -/
import Derived.Test.YtjcbhabmkcdcnaaGreatDoorMir
import Derived.Test.YtjcbhabmkcdcnaaGreatDoorLa3
import Derived.Test.YtjcbhabmkcdcnaaGreatDoorProg
import Derived.Test.YtjcbhabmkcdcnaaGreatDoorWk2
set_option linter.unusedSimpArgs false
set_option linter.unusedVariables false
set_option linter.unnecessarySimpa false
namespace Go.Proofs.YtjcbhabmkcdcnaaGreatDoor.Walk
open Go.AV Go.M Go.RowKit Go.Proofs
end Go.Proofs.YtjcbhabmkcdcnaaGreatDoor.Walk

