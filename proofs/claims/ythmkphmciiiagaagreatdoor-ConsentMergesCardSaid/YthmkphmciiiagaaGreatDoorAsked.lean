/- What handref2.Asked returns. -/
import Derived.Test.YthmkphmciiiagaaGreatDoorAskedLaw
import Derived.Test.YthmkphmciiiagaaGreatDoorMap
namespace Go.Proofs.YthmkphmciiiagaaGreatDoor
open Go Go.RowKit
end Go.Proofs.YthmkphmciiiagaaGreatDoor
