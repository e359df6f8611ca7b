/-
  What values of a type look like, as plain data.
-/
import Derived.Test.YtfbnodahmmlfdaaGreatDoorOpn
namespace Go.AM.Spec
set_option linter.unusedVariables false
set_option linter.unusedSimpArgs false
section
variable {P : Program}
end
end Go.AM.Spec
