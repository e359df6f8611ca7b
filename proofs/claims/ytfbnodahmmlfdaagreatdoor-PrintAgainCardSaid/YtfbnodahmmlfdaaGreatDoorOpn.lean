/-
  What is read of an argument, as plain data: for types of bools, integers, strings, slices and structs of such.
-/
import Derived.Test.YtfbnodahmmlfdaaGreatDoorLaw
import Derived.Deep.Slices
import Derived.Lib.LaidTab
import Derived.Carry
namespace Go.AM
open Go.ChangeShapes Go.WideShapes Go.Deep
set_option linter.unusedVariables false
section
variable {H : Type} {enc : TypeId × Value → H} {P : Program} {w : World}
end
end Go.AM
