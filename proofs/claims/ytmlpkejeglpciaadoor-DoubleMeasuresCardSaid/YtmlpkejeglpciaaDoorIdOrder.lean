/- What CompareIds and handref2.Order return. -/
import Derived.Test.YtmlpkejeglpciaaDoorRefKey
import Derived.Test.YtmlpkejeglpciaaDoorMix
import Derived.Test.YtmlpkejeglpciaaDoorCmp
import Derived.WalkLawsBesides
import Derived.Sort.Walk0
namespace Go.Proofs.YtmlpkejeglpciaaDoor
open Go.RowKit
def idCmp (k1 : Int) (t1 : ByteArray) (k2 : Int) (t2 : ByteArray) : Int := if k1 < k2 then -1 else if k1 = k2 then cmpS t1 t2 else 1
end Go.Proofs.YtmlpkejeglpciaaDoor
