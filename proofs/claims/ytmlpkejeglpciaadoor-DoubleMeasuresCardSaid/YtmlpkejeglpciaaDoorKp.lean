/- Steps that come again and again, each as one theorem whose last argument is filled by its own tactic. No program is in sight. -/
import Derived.WalkKit
import Derived.Deep.Quiet
import Derived.Tactics2
import Derived.Lib.Hide
namespace Go.Proofs.YtmlpkejeglpciaaDoor
open Go Go.RowKit
/-- what is left of a goal -/
structure Kp (p : Prop) : Prop where
  out : p
end Go.Proofs.YtmlpkejeglpciaaDoor
