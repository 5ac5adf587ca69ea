/-
  Part 49 of EscrowTake. Conditions: named in each theorem.
-/
import Derived.Test.YtpcjekgfnfjbpaaGreatPkEscrowTake48
import Derived.Test.YtpcjekgfnfjbpaaGreatPkEscrowTake6
set_option linter.unusedVariables false
set_option linter.unusedSimpArgs false
namespace Go.aZ
end Go.aZ
