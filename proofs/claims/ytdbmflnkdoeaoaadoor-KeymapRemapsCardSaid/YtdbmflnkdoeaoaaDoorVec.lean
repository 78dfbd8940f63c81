/-
  Contracts of package heap: VecOf, At, SetAt over what find gives. Conditions: what find gives is known.
-/
import Derived.Test.YtdbmflnkdoeaoaaDoorG1
import Derived.Test.YtdbmflnkdoeaoaaDoorClone
import Derived.Test.YtdbmflnkdoeaoaaDoorLen
namespace Go.Proofs.YtdbmflnkdoeaoaaDoor
open Go.RowKit
set_option maxRecDepth 100000

end Go.Proofs.YtdbmflnkdoeaoaaDoor
