/-
  A call from which one block is hidden: it may turn the others, and leaves that one as it is.
-/
import Derived.Test.YtehbmajjoolcnaaGreatCallx
set_option linter.unusedVariables false
set_option linter.unusedSimpArgs false
namespace Go.AM
def Key.stays (i : Nat) : Key → Bool
 | .blk j => decide (j ≠ i)
 | .cell j _ => decide (j ≠ i)
 | _ => false
open Classical in
section
variable {P : Program} {E : LblP} {nt : Cx} {φ φ' ψ : Fr} {H H' : Heap} {ρ : Own} {ι : Places} {a : Act} {w : World} {o : Oper} {call : CallF} {v : V}
end
end Go.AM
