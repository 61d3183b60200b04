/- Each function of the program answers as its plain counterpart does, where that answers. Conditions: none. -/
import Derived.Test.YtgeimamfoblkjaaGreatDoorMir
import Derived.Test.YtgeimamfoblkjaaGreatDoorLa3
import Derived.Test.YtgeimamfoblkjaaGreatDoorProg
import Derived.Maps.AppendAt
import Derived.Test.YtgeimamfoblkjaaGreatDoorSh1
import Derived.Shelf.Sort.Plain
import Derived.Shelf.Slices.In.SortNone
import Derived.Shelf.Strconv.AppendIntPublic10
import Derived.Lib.Slices
import Derived.Lib.Hide
import Derived.Laws.IdiomStrings
import Derived.Laws.BytesArg
import Derived.OwnWalk
import Derived.BigCall
import Derived.Test.YtgeimamfoblkjaaGreatDoorWk3
set_option linter.unusedSimpArgs false
set_option linter.unusedVariables false
set_option linter.unnecessarySimpa false
namespace Go.Proofs.YtgeimamfoblkjaaGreatDoor.Walk
open Go.AV Go.M Go.RowKit Go.Proofs
end Go.Proofs.YtgeimamfoblkjaaGreatDoor.Walk

