/-
  min of two open numbers. Over any program. Conditions: none.
-/
import Derived.Test.YtmmapljeeccdnaaDoorS4
namespace Go.Proofs.YtmmapljeeccdnaaDoor
section
variable {P : Program} {o : Oper}
end
end Go.Proofs.YtmmapljeeccdnaaDoor
