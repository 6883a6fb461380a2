/- Other numbers of nodes and edges: the small functions of the reference. -/
import Derived.Test.YthgelhglfbgagaaGreatDoorG4
import Derived.Test.YthgelhglfbgagaaGreatDoorG1
namespace Go.Proofs.YthgelhglfbgagaaGreatDoor
open Go Go.RowKit Go.BigFrame

end Go.Proofs.YthgelhglfbgagaaGreatDoor
