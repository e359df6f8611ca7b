/-
  A call from which all that stands is hidden: it lays blocks of its own behind ours, and leaves ours as they are.
-/
import Derived.Test.YtehbmajjoolcnaaGreatCalm
set_option linter.unusedVariables false
set_option linter.unusedSimpArgs false
namespace Go.AM
section
variable {P : Program} {E : LblP} {nt : Cx} {φ φ' ψ : Fr} {H H' : Heap} {ρ : Own} {ι : Places} {a : Act} {w : World} {o : Oper} {call : CallF} {v : V}
def Own.behind (ρ ρ' : Own) (n : Nat) : Own
 | .blk i => if i < n then ρ (.blk i) else ρ' (.blk i)
 | .cell i j => if i < n then ρ (.cell i j) else ρ' (.cell i j)
 | .slot s => ρ (.slot s)
 | .arg j => if j = 0 then ρ' (.slot 0) else ρ (.arg j)
 | .fr n => ρ (.fr n)
end
end Go.AM
