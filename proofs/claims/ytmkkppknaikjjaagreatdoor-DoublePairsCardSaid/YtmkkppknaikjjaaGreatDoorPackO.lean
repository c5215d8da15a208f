/- Several texts in one: CutsR, CutsJ. -/
import Derived.Test.YtmkkppknaikjjaaGreatDoorPackF
/- handref2.CutsOf: the ids without which a person would be several. -/
namespace Go.Proofs.YtmkkppknaikjjaaGreatDoor
section
open Go Go.RowKit
end
section
open Go Go.RowKit
end
end Go.Proofs.YtmkkppknaikjjaaGreatDoor
