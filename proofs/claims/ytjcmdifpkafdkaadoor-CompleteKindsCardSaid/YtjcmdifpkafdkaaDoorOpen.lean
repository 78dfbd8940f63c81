/-
  Opening arguments of the rows: ints and slices of ints, as the walks take them. No program in this text. Conditions: none.
-/
import Derived.Test.YtjcmdifpkafdkaaDoorBase
import Derived.ProofKit
import Derived.OpenShut
namespace Go.Proofs.YtjcmdifpkafdkaaDoor
open Go.ChangeShapes Go.WideShapes Go.ChangeAt Go.RowKit

end Go.Proofs.YtjcmdifpkafdkaaDoor
