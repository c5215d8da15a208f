/- Several texts in one: SortInt, EqInt, PsnSml. -/
import Derived.Test.YtmkkppknaikjjaaGreatDoorPackX
/- Numbers in a slice of the call's own: sorted, and made single. -/
namespace Go.Proofs.YtmkkppknaikjjaaGreatDoor
section
open Go Go.RowKit Go.Sort
end
section
open Go Go.RowKit
end
section
open Go Go.RowKit
theorem BP {r:aP}{ts:List ak}(h:kL r ts=0):jB r=0∧iy ts=0:=by
 unfold kL at h;split at h
 ·rename_i h2;exact absurd h h2
 ·rename_i h2;exact ⟨by omega,h⟩
end
end Go.Proofs.YtmkkppknaikjjaaGreatDoor
