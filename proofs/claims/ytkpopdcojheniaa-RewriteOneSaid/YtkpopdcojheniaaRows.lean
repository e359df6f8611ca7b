/-
  NARROWER THAN 'FOR EVERY INPUT', by the rows' own cells (each row's printed sentence says how): RewriteTells: loops · RewriteAgain: loops · RewriteOne: loops.
  DERIVED. THE GIVEN ROWS OF THIS SEAT. 3 by the template 'for every input the law returns true; each argument reads behind the call as it read before'; 0 by the template 'total and deterministic' (their statements: YtkpopdcojheniaaTotals.lean).
  GIVEN WITH THE SEED: the statements are not yours to turn. If you find one false, say at which input.
  Laid BY PROGRAM, IN A SANDBOX (cutbox-rows.mjs): the forced cells as the released guide's own fill.sh prints them over the translation 49d9aaf247a73c2b… (all of the seat's roots in one cut). By AI agents, Wed Nov 11 2026. No macro, syntax, notation, axiom, sorry.
-/
import Derived.Test.YtkpopdcojheniaaChecked
import GoSem.Claim
import GoSem.ClaimJoined
import GoSem.ClaimMapViews
import Derived.JoinedTies
import Derived.KernelRfl
namespace Go.Proofs.Ytkpopdcojheniaa
/- THE CELL 'sum', in the pinned program and in every row, IS THE sha256 OF THE DUMP (.gsa) THAT YtkpopdcojheniaaProg.lean LOADS. Nothing in Lean hashes anything: it is a label: what it is worth is what the hold of that sum in a sandbox is worth. -/
noncomputable def Try.pinned : Pinned := { name := "ytkpopdcojheniaa", sum := "49d9aaf247a73c2bb5742e957e7dfefca23e171955b7b969d1c47a34759eac5c", checked := Try.checked }
namespace Rows
def none {H : Type} : Left H := { results := [], args := [] }

/-- 'flotsamlaw26.RewriteTells': WHATEVER THE INPUT: true; the input reads as it did. -/
def rewriteTellsSpec : ChangeSpec := { name := "rewriteTells", fn := fun _ => fun
  | [d1, d2] => { results := [.lit (.bool true)], args := [d1, d2] }
  | _ => none }
def rewriteTellsRow : OpenClaim := { program := "ytkpopdcojheniaa", sum := "49d9aaf247a73c2bb5742e957e7dfefca23e171955b7b969d1c47a34759eac5c", func := "flotsam/flotsamlaw26.RewriteTells", spec := "rewriteTells", unfollowed := true, recurses := true, loops := true, apart := false }
def RewriteTellsSaid : Prop := rewriteTellsRow.holds Try.pinned (OpenSpec.ofChange rewriteTellsSpec)

/-- ITS FALSE NEIGHBOUR: 'it returns false'. Refute it at one input. -/
def rewriteTellsWrong : ChangeSpec := { name := "rewriteTells", fn := fun _ => fun
  | [d1, d2] => { results := [.lit (.bool false)], args := [d1, d2] }
  | _ => none }
def RewriteTellsWrongFalsely : Prop := rewriteTellsRow.holds Try.pinned (OpenSpec.ofChange rewriteTellsWrong)

/-- 'flotsamlaw26.RewriteAgain': WHATEVER THE INPUT: true; the input reads as it did. -/
def rewriteAgainSpec : ChangeSpec := { name := "rewriteAgain", fn := fun _ => fun
  | [d1, d2] => { results := [.lit (.bool true)], args := [d1, d2] }
  | _ => none }
def rewriteAgainRow : OpenClaim := { program := "ytkpopdcojheniaa", sum := "49d9aaf247a73c2bb5742e957e7dfefca23e171955b7b969d1c47a34759eac5c", func := "flotsam/flotsamlaw26.RewriteAgain", spec := "rewriteAgain", unfollowed := true, recurses := true, loops := true, apart := false }
def RewriteAgainSaid : Prop := rewriteAgainRow.holds Try.pinned (OpenSpec.ofChange rewriteAgainSpec)

/-- ITS FALSE NEIGHBOUR: 'it returns false'. Refute it at one input. -/
def rewriteAgainWrong : ChangeSpec := { name := "rewriteAgain", fn := fun _ => fun
  | [d1, d2] => { results := [.lit (.bool false)], args := [d1, d2] }
  | _ => none }
def RewriteAgainWrongFalsely : Prop := rewriteAgainRow.holds Try.pinned (OpenSpec.ofChange rewriteAgainWrong)

/-- 'flotsamlaw26.RewriteOne': WHATEVER THE INPUT: true; the input reads as it did. -/
def rewriteOneSpec : ChangeSpec := { name := "rewriteOne", fn := fun _ => fun
  | [d1, d2] => { results := [.lit (.bool true)], args := [d1, d2] }
  | _ => none }
def rewriteOneRow : OpenClaim := { program := "ytkpopdcojheniaa", sum := "49d9aaf247a73c2bb5742e957e7dfefca23e171955b7b969d1c47a34759eac5c", func := "flotsam/flotsamlaw26.RewriteOne", spec := "rewriteOne", inPlace := ["internal/bytealg.IndexByteString", "internal/bytealg.IndexString"], unfollowed := true, recurses := true, named := ["internal/bytealg.MaxLen"], loops := true, apart := false }
def RewriteOneSaid : Prop := rewriteOneRow.holds Try.pinned (OpenSpec.ofChange rewriteOneSpec)

/-- ITS FALSE NEIGHBOUR: 'it returns false'. Refute it at one input. -/
def rewriteOneWrong : ChangeSpec := { name := "rewriteOne", fn := fun _ => fun
  | [d1, d2] => { results := [.lit (.bool false)], args := [d1, d2] }
  | _ => none }
def RewriteOneWrongFalsely : Prop := rewriteOneRow.holds Try.pinned (OpenSpec.ofChange rewriteOneWrong)

/- THE SECOND FORM. 'bulk': how many values and letters a reading holds, each counted each time it is reached (what is shared counts as often as it is met; a slice's spare places count too). A statement '..UptoSaid' is the law's where the arguments, and the package variables that the reading takes, are together of bulk at most 1048576: NARROWER than '..Said'. Prove '..Said' where nothing that the law and all that it calls make is longer than what came in: it says more and counts as full. Else prove '..UptoSaid'. A law counts once. -/
mutual
def uptoBulk {H : Type} : DataW H → Nat
  | .lit (.string bytes) => bytes.length + 1
  | .lit _ => 1
  | .nil => 1
  | .ptr d => uptoBulk d + 1
  | .slice elems spare => uptoBulkAll elems + uptoBulkAll spare + 1
  | .agg parts => uptoBulkAll parts + 1
  | .iface _ d => uptoBulk d + 1
  | .map entries => uptoBulkEntries entries + 1
  | .held _ => 1
def uptoBulkAll {H : Type} : List (DataW H) → Nat
  | [] => 0
  | d :: r => uptoBulk d + uptoBulkAll r
def uptoBulkEntries {H : Type} : List (Lit × DataW H) → Nat
  | [] => 0
  | x :: r => uptoBulkEntry x + uptoBulkEntries r
def uptoBulkEntry {H : Type} : Lit × DataW H → Nat
  | (.string bytes, d) => bytes.length + uptoBulk d + 1
  | (_, d) => uptoBulk d + 1
 end
def uptoSmall : (H : Type) → List (DataW H) → Bool := fun _ ds => decide (uptoBulkAll ds ≤ 1048576)
def OpenSpec.upto (s : _root_.Go.ChangeSpec) : _root_.Go.OpenSpec := { _root_.Go.OpenSpec.ofChange s with cond := some uptoSmall }

/-- 'flotsamlaw26.RewriteTells', WHERE WHAT IT READS IS OF BULK AT MOST 1048576: true; the input reads as it did. -/
def rewriteTellsUptoRow : OpenClaim := { program := "ytkpopdcojheniaa", sum := "49d9aaf247a73c2bb5742e957e7dfefca23e171955b7b969d1c47a34759eac5c", func := "flotsam/flotsamlaw26.RewriteTells", spec := "rewriteTells", unfollowed := true, recurses := true, loops := true, apart := false, narrowed := true }
def RewriteTellsUptoSaid : Prop := rewriteTellsUptoRow.holds Try.pinned (OpenSpec.upto rewriteTellsSpec)

/-- 'flotsamlaw26.RewriteAgain', WHERE WHAT IT READS IS OF BULK AT MOST 1048576: true; the input reads as it did. -/
def rewriteAgainUptoRow : OpenClaim := { program := "ytkpopdcojheniaa", sum := "49d9aaf247a73c2bb5742e957e7dfefca23e171955b7b969d1c47a34759eac5c", func := "flotsam/flotsamlaw26.RewriteAgain", spec := "rewriteAgain", unfollowed := true, recurses := true, loops := true, apart := false, narrowed := true }
def RewriteAgainUptoSaid : Prop := rewriteAgainUptoRow.holds Try.pinned (OpenSpec.upto rewriteAgainSpec)

/-- 'flotsamlaw26.RewriteOne', WHERE WHAT IT READS IS OF BULK AT MOST 1048576: true; the input reads as it did. -/
def rewriteOneUptoRow : OpenClaim := { program := "ytkpopdcojheniaa", sum := "49d9aaf247a73c2bb5742e957e7dfefca23e171955b7b969d1c47a34759eac5c", func := "flotsam/flotsamlaw26.RewriteOne", spec := "rewriteOne", inPlace := ["internal/bytealg.IndexByteString", "internal/bytealg.IndexString"], unfollowed := true, recurses := true, named := ["internal/bytealg.MaxLen"], loops := true, apart := false, narrowed := true }
def RewriteOneUptoSaid : Prop := rewriteOneUptoRow.holds Try.pinned (OpenSpec.upto rewriteOneSpec)

end Rows
end Go.Proofs.Ytkpopdcojheniaa
