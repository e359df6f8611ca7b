/-
  NARROWER THAN 'FOR EVERY INPUT', by the rows' own cells (each row's printed sentence says how): RewriteTells: loops · RewriteAgain: loops · TreeRight: loops · TreeLists: loops · TreeSames: loops · TreeApart: loops · TypesCheck: loops · TypesDrops: loops · TypesMoves: loops · RewriteOne: loops.
  DERIVED. THE GIVEN ROWS OF THIS SEAT. 10 by the template 'for every input the law returns true; each argument reads behind the call as it read before'; 0 by the template 'total and deterministic' (their statements: YthboieenfnpeeaaTotals.lean).
  GIVEN WITH THE SEED: the statements are not yours to turn. If you find one false, say at which input.
  Laid BY PROGRAM, IN A SANDBOX (cutbox-rows.mjs): the forced cells as the released guide's own fill.sh prints them over the translation f2d0a5b7647bb2d1… (all of the seat's roots in one cut). By AI agents, Wed Nov 11 2026. No macro, syntax, notation, axiom, sorry.
-/
import Derived.Test.YthboieenfnpeeaaChecked
import GoSem.Claim
import GoSem.ClaimJoined
import GoSem.ClaimMapViews
import Derived.JoinedTies
import Derived.KernelRfl
namespace Go.Proofs.Ythboieenfnpeeaa
/- THE CELL 'sum', in the pinned program and in every row, IS THE sha256 OF THE DUMP (.gsa) THAT YthboieenfnpeeaaProg.lean LOADS. Nothing in Lean hashes anything: it is a label: what it is worth is what the hold of that sum in a sandbox is worth. -/
noncomputable def Try.pinned : Pinned := { name := "ythboieenfnpeeaa", sum := "f2d0a5b7647bb2d1bf90faf53ac14fed03e517b631a1c443a6106a70105d7ae9", checked := Try.checked }
namespace Rows
def none {H : Type} : Left H := { results := [], args := [] }

/-- 'flotsamlaw26.RewriteTells': WHATEVER THE INPUT: true; the input reads as it did. -/
def rewriteTellsSpec : ChangeSpec := { name := "rewriteTells", fn := fun _ => fun
  | [d1, d2] => { results := [.lit (.bool true)], args := [d1, d2] }
  | _ => none }
def rewriteTellsRow : OpenClaim := { program := "ythboieenfnpeeaa", sum := "f2d0a5b7647bb2d1bf90faf53ac14fed03e517b631a1c443a6106a70105d7ae9", func := "flotsam/flotsamlaw26.RewriteTells", spec := "rewriteTells", unfollowed := true, recurses := true, loops := true, apart := false }
def RewriteTellsSaid : Prop := rewriteTellsRow.holds Try.pinned (OpenSpec.ofChange rewriteTellsSpec)

/-- ITS FALSE NEIGHBOUR: 'it returns false'. Refute it at one input. -/
def rewriteTellsWrong : ChangeSpec := { name := "rewriteTells", fn := fun _ => fun
  | [d1, d2] => { results := [.lit (.bool false)], args := [d1, d2] }
  | _ => none }
def RewriteTellsWrongFalsely : Prop := rewriteTellsRow.holds Try.pinned (OpenSpec.ofChange rewriteTellsWrong)

/-- 'flotsamlaw26.RewriteAgain': WHATEVER THE INPUT: true; the input reads as it did. -/
def rewriteAgainSpec : ChangeSpec := { name := "rewriteAgain", fn := fun _ => fun
  | [d1, d2] => { results := [.lit (.bool true)], args := [d1, d2] }
  | _ => none }
def rewriteAgainRow : OpenClaim := { program := "ythboieenfnpeeaa", sum := "f2d0a5b7647bb2d1bf90faf53ac14fed03e517b631a1c443a6106a70105d7ae9", func := "flotsam/flotsamlaw26.RewriteAgain", spec := "rewriteAgain", unfollowed := true, recurses := true, loops := true, apart := false }
def RewriteAgainSaid : Prop := rewriteAgainRow.holds Try.pinned (OpenSpec.ofChange rewriteAgainSpec)

/-- ITS FALSE NEIGHBOUR: 'it returns false'. Refute it at one input. -/
def rewriteAgainWrong : ChangeSpec := { name := "rewriteAgain", fn := fun _ => fun
  | [d1, d2] => { results := [.lit (.bool false)], args := [d1, d2] }
  | _ => none }
def RewriteAgainWrongFalsely : Prop := rewriteAgainRow.holds Try.pinned (OpenSpec.ofChange rewriteAgainWrong)

/-- 'flotsamlaw16.TreeRight': WHATEVER THE INPUT: true; the input reads as it did. -/
def treeRightSpec : ChangeSpec := { name := "treeRight", fn := fun _ => fun
  | [d1, d2] => { results := [.lit (.bool true)], args := [d1, d2] }
  | _ => none }
def treeRightRow : OpenClaim := { program := "ythboieenfnpeeaa", sum := "f2d0a5b7647bb2d1bf90faf53ac14fed03e517b631a1c443a6106a70105d7ae9", func := "flotsam/flotsamlaw16.TreeRight", spec := "treeRight", inPlace := ["internal/bytealg.IndexByteString", "internal/bytealg.IndexString"], unfollowed := true, recurses := true, named := ["internal/bytealg.MaxLen"], loops := true, apart := false }
def TreeRightSaid : Prop := treeRightRow.holds Try.pinned (OpenSpec.ofChange treeRightSpec)

/-- ITS FALSE NEIGHBOUR: 'it returns false'. Refute it at one input. -/
def treeRightWrong : ChangeSpec := { name := "treeRight", fn := fun _ => fun
  | [d1, d2] => { results := [.lit (.bool false)], args := [d1, d2] }
  | _ => none }
def TreeRightWrongFalsely : Prop := treeRightRow.holds Try.pinned (OpenSpec.ofChange treeRightWrong)

/-- 'flotsamlaw16.TreeLists': WHATEVER THE INPUT: true; the input reads as it did. -/
def treeListsSpec : ChangeSpec := { name := "treeLists", fn := fun _ => fun
  | [d] => { results := [.lit (.bool true)], args := [d] }
  | _ => none }
def treeListsRow : OpenClaim := { program := "ythboieenfnpeeaa", sum := "f2d0a5b7647bb2d1bf90faf53ac14fed03e517b631a1c443a6106a70105d7ae9", func := "flotsam/flotsamlaw16.TreeLists", spec := "treeLists", inPlace := ["internal/bytealg.IndexByteString", "internal/bytealg.IndexString"], unfollowed := true, recurses := true, named := ["internal/bytealg.MaxLen"], loops := true, apart := false }
def TreeListsSaid : Prop := treeListsRow.holds Try.pinned (OpenSpec.ofChange treeListsSpec)

/-- ITS FALSE NEIGHBOUR: 'it returns false'. Refute it at one input. -/
def treeListsWrong : ChangeSpec := { name := "treeLists", fn := fun _ => fun
  | [d] => { results := [.lit (.bool false)], args := [d] }
  | _ => none }
def TreeListsWrongFalsely : Prop := treeListsRow.holds Try.pinned (OpenSpec.ofChange treeListsWrong)

/-- 'flotsamlaw16.TreeSames': WHATEVER THE INPUT: true; the input reads as it did. -/
def treeSamesSpec : ChangeSpec := { name := "treeSames", fn := fun _ => fun
  | [d1, d2] => { results := [.lit (.bool true)], args := [d1, d2] }
  | _ => none }
def treeSamesRow : OpenClaim := { program := "ythboieenfnpeeaa", sum := "f2d0a5b7647bb2d1bf90faf53ac14fed03e517b631a1c443a6106a70105d7ae9", func := "flotsam/flotsamlaw16.TreeSames", spec := "treeSames", inPlace := ["internal/bytealg.IndexByteString", "internal/bytealg.IndexString"], unfollowed := true, recurses := true, named := ["internal/bytealg.MaxLen"], loops := true, apart := false }
def TreeSamesSaid : Prop := treeSamesRow.holds Try.pinned (OpenSpec.ofChange treeSamesSpec)

/-- ITS FALSE NEIGHBOUR: 'it returns false'. Refute it at one input. -/
def treeSamesWrong : ChangeSpec := { name := "treeSames", fn := fun _ => fun
  | [d1, d2] => { results := [.lit (.bool false)], args := [d1, d2] }
  | _ => none }
def TreeSamesWrongFalsely : Prop := treeSamesRow.holds Try.pinned (OpenSpec.ofChange treeSamesWrong)

/-- 'flotsamlaw16.TreeApart': WHATEVER THE INPUT: true; the input reads as it did. -/
def treeApartSpec : ChangeSpec := { name := "treeApart", fn := fun _ => fun
  | [d1, d2, d3] => { results := [.lit (.bool true)], args := [d1, d2, d3] }
  | _ => none }
def treeApartRow : OpenClaim := { program := "ythboieenfnpeeaa", sum := "f2d0a5b7647bb2d1bf90faf53ac14fed03e517b631a1c443a6106a70105d7ae9", func := "flotsam/flotsamlaw16.TreeApart", spec := "treeApart", inPlace := ["internal/bytealg.IndexByteString", "internal/bytealg.IndexString"], unfollowed := true, recurses := true, named := ["internal/bytealg.MaxLen"], loops := true, apart := false }
def TreeApartSaid : Prop := treeApartRow.holds Try.pinned (OpenSpec.ofChange treeApartSpec)

/-- ITS FALSE NEIGHBOUR: 'it returns false'. Refute it at one input. -/
def treeApartWrong : ChangeSpec := { name := "treeApart", fn := fun _ => fun
  | [d1, d2, d3] => { results := [.lit (.bool false)], args := [d1, d2, d3] }
  | _ => none }
def TreeApartWrongFalsely : Prop := treeApartRow.holds Try.pinned (OpenSpec.ofChange treeApartWrong)

/-- 'flotsamlaw19.TypesCheck': WHATEVER THE INPUT: true; the input reads as it did. -/
def typesCheckSpec : ChangeSpec := { name := "typesCheck", fn := fun _ => fun
  | [d] => { results := [.lit (.bool true)], args := [d] }
  | _ => none }
def typesCheckRow : OpenClaim := { program := "ythboieenfnpeeaa", sum := "f2d0a5b7647bb2d1bf90faf53ac14fed03e517b631a1c443a6106a70105d7ae9", func := "flotsam/flotsamlaw19.TypesCheck", spec := "typesCheck", inPlace := ["internal/bytealg.IndexByteString", "internal/bytealg.IndexString"], unfollowed := true, recurses := true, named := ["internal/bytealg.MaxLen"], loops := true, apart := false }
def TypesCheckSaid : Prop := typesCheckRow.holds Try.pinned (OpenSpec.ofChange typesCheckSpec)

/-- ITS FALSE NEIGHBOUR: 'it returns false'. Refute it at one input. -/
def typesCheckWrong : ChangeSpec := { name := "typesCheck", fn := fun _ => fun
  | [d] => { results := [.lit (.bool false)], args := [d] }
  | _ => none }
def TypesCheckWrongFalsely : Prop := typesCheckRow.holds Try.pinned (OpenSpec.ofChange typesCheckWrong)

/-- 'flotsamlaw19.TypesDrops': WHATEVER THE INPUT: true; the input reads as it did. -/
def typesDropsSpec : ChangeSpec := { name := "typesDrops", fn := fun _ => fun
  | [d1, d2] => { results := [.lit (.bool true)], args := [d1, d2] }
  | _ => none }
def typesDropsRow : OpenClaim := { program := "ythboieenfnpeeaa", sum := "f2d0a5b7647bb2d1bf90faf53ac14fed03e517b631a1c443a6106a70105d7ae9", func := "flotsam/flotsamlaw19.TypesDrops", spec := "typesDrops", inPlace := ["internal/bytealg.IndexByteString", "internal/bytealg.IndexString"], unfollowed := true, recurses := true, named := ["internal/bytealg.MaxLen"], loops := true, apart := false }
def TypesDropsSaid : Prop := typesDropsRow.holds Try.pinned (OpenSpec.ofChange typesDropsSpec)

/-- ITS FALSE NEIGHBOUR: 'it returns false'. Refute it at one input. -/
def typesDropsWrong : ChangeSpec := { name := "typesDrops", fn := fun _ => fun
  | [d1, d2] => { results := [.lit (.bool false)], args := [d1, d2] }
  | _ => none }
def TypesDropsWrongFalsely : Prop := typesDropsRow.holds Try.pinned (OpenSpec.ofChange typesDropsWrong)

/-- 'flotsamlaw19.TypesMoves': WHATEVER THE INPUT: true; the input reads as it did. -/
def typesMovesSpec : ChangeSpec := { name := "typesMoves", fn := fun _ => fun
  | [d1, d2] => { results := [.lit (.bool true)], args := [d1, d2] }
  | _ => none }
def typesMovesRow : OpenClaim := { program := "ythboieenfnpeeaa", sum := "f2d0a5b7647bb2d1bf90faf53ac14fed03e517b631a1c443a6106a70105d7ae9", func := "flotsam/flotsamlaw19.TypesMoves", spec := "typesMoves", inPlace := ["internal/bytealg.IndexByteString", "internal/bytealg.IndexString"], unfollowed := true, recurses := true, named := ["internal/bytealg.MaxLen"], loops := true, apart := false }
def TypesMovesSaid : Prop := typesMovesRow.holds Try.pinned (OpenSpec.ofChange typesMovesSpec)

/-- ITS FALSE NEIGHBOUR: 'it returns false'. Refute it at one input. -/
def typesMovesWrong : ChangeSpec := { name := "typesMoves", fn := fun _ => fun
  | [d1, d2] => { results := [.lit (.bool false)], args := [d1, d2] }
  | _ => none }
def TypesMovesWrongFalsely : Prop := typesMovesRow.holds Try.pinned (OpenSpec.ofChange typesMovesWrong)

/-- 'flotsamlaw26.RewriteOne': WHATEVER THE INPUT: true; the input reads as it did. -/
def rewriteOneSpec : ChangeSpec := { name := "rewriteOne", fn := fun _ => fun
  | [d1, d2] => { results := [.lit (.bool true)], args := [d1, d2] }
  | _ => none }
def rewriteOneRow : OpenClaim := { program := "ythboieenfnpeeaa", sum := "f2d0a5b7647bb2d1bf90faf53ac14fed03e517b631a1c443a6106a70105d7ae9", func := "flotsam/flotsamlaw26.RewriteOne", spec := "rewriteOne", inPlace := ["internal/bytealg.IndexByteString", "internal/bytealg.IndexString"], unfollowed := true, recurses := true, named := ["internal/bytealg.MaxLen"], loops := true, apart := false }
def RewriteOneSaid : Prop := rewriteOneRow.holds Try.pinned (OpenSpec.ofChange rewriteOneSpec)

/-- ITS FALSE NEIGHBOUR: 'it returns false'. Refute it at one input. -/
def rewriteOneWrong : ChangeSpec := { name := "rewriteOne", fn := fun _ => fun
  | [d1, d2] => { results := [.lit (.bool false)], args := [d1, d2] }
  | _ => none }
def RewriteOneWrongFalsely : Prop := rewriteOneRow.holds Try.pinned (OpenSpec.ofChange rewriteOneWrong)

/- THE SECOND FORM. 'bulk': how many values and letters a reading holds, each counted each time it is reached (what is shared counts as often as it is met; a slice's spare places count too). A statement '..UptoSaid' is the law's where the arguments, and the package variables that the reading takes, are together of bulk at most 1048576: NARROWER than '..Said'. Prove '..Said' where nothing that the law and all that it calls make is longer than what came in: it says more and counts as full. Else prove '..UptoSaid'. A law counts once. -/
mutual
def uptoBulk {H : Type} : DataW H → Nat
  | .lit (.string bytes) => bytes.length + 1
  | .lit _ => 1
  | .nil => 1
  | .ptr d => uptoBulk d + 1
  | .slice elems spare => uptoBulkAll elems + uptoBulkAll spare + 1
  | .agg parts => uptoBulkAll parts + 1
  | .iface _ d => uptoBulk d + 1
  | .map entries => uptoBulkEntries entries + 1
  | .held _ => 1
def uptoBulkAll {H : Type} : List (DataW H) → Nat
  | [] => 0
  | d :: r => uptoBulk d + uptoBulkAll r
def uptoBulkEntries {H : Type} : List (Lit × DataW H) → Nat
  | [] => 0
  | x :: r => uptoBulkEntry x + uptoBulkEntries r
def uptoBulkEntry {H : Type} : Lit × DataW H → Nat
  | (.string bytes, d) => bytes.length + uptoBulk d + 1
  | (_, d) => uptoBulk d + 1
 end
def uptoSmall : (H : Type) → List (DataW H) → Bool := fun _ ds => decide (uptoBulkAll ds ≤ 1048576)
def OpenSpec.upto (s : _root_.Go.ChangeSpec) : _root_.Go.OpenSpec := { _root_.Go.OpenSpec.ofChange s with cond := some uptoSmall }

/-- 'flotsamlaw26.RewriteTells', WHERE WHAT IT READS IS OF BULK AT MOST 1048576: true; the input reads as it did. -/
def rewriteTellsUptoRow : OpenClaim := { program := "ythboieenfnpeeaa", sum := "f2d0a5b7647bb2d1bf90faf53ac14fed03e517b631a1c443a6106a70105d7ae9", func := "flotsam/flotsamlaw26.RewriteTells", spec := "rewriteTells", unfollowed := true, recurses := true, loops := true, apart := false, narrowed := true }
def RewriteTellsUptoSaid : Prop := rewriteTellsUptoRow.holds Try.pinned (OpenSpec.upto rewriteTellsSpec)

/-- 'flotsamlaw26.RewriteAgain', WHERE WHAT IT READS IS OF BULK AT MOST 1048576: true; the input reads as it did. -/
def rewriteAgainUptoRow : OpenClaim := { program := "ythboieenfnpeeaa", sum := "f2d0a5b7647bb2d1bf90faf53ac14fed03e517b631a1c443a6106a70105d7ae9", func := "flotsam/flotsamlaw26.RewriteAgain", spec := "rewriteAgain", unfollowed := true, recurses := true, loops := true, apart := false, narrowed := true }
def RewriteAgainUptoSaid : Prop := rewriteAgainUptoRow.holds Try.pinned (OpenSpec.upto rewriteAgainSpec)

/-- 'flotsamlaw16.TreeRight', WHERE WHAT IT READS IS OF BULK AT MOST 1048576: true; the input reads as it did. -/
def treeRightUptoRow : OpenClaim := { program := "ythboieenfnpeeaa", sum := "f2d0a5b7647bb2d1bf90faf53ac14fed03e517b631a1c443a6106a70105d7ae9", func := "flotsam/flotsamlaw16.TreeRight", spec := "treeRight", inPlace := ["internal/bytealg.IndexByteString", "internal/bytealg.IndexString"], unfollowed := true, recurses := true, named := ["internal/bytealg.MaxLen"], loops := true, apart := false, narrowed := true }
def TreeRightUptoSaid : Prop := treeRightUptoRow.holds Try.pinned (OpenSpec.upto treeRightSpec)

/-- 'flotsamlaw16.TreeLists', WHERE WHAT IT READS IS OF BULK AT MOST 1048576: true; the input reads as it did. -/
def treeListsUptoRow : OpenClaim := { program := "ythboieenfnpeeaa", sum := "f2d0a5b7647bb2d1bf90faf53ac14fed03e517b631a1c443a6106a70105d7ae9", func := "flotsam/flotsamlaw16.TreeLists", spec := "treeLists", inPlace := ["internal/bytealg.IndexByteString", "internal/bytealg.IndexString"], unfollowed := true, recurses := true, named := ["internal/bytealg.MaxLen"], loops := true, apart := false, narrowed := true }
def TreeListsUptoSaid : Prop := treeListsUptoRow.holds Try.pinned (OpenSpec.upto treeListsSpec)

/-- 'flotsamlaw16.TreeSames', WHERE WHAT IT READS IS OF BULK AT MOST 1048576: true; the input reads as it did. -/
def treeSamesUptoRow : OpenClaim := { program := "ythboieenfnpeeaa", sum := "f2d0a5b7647bb2d1bf90faf53ac14fed03e517b631a1c443a6106a70105d7ae9", func := "flotsam/flotsamlaw16.TreeSames", spec := "treeSames", inPlace := ["internal/bytealg.IndexByteString", "internal/bytealg.IndexString"], unfollowed := true, recurses := true, named := ["internal/bytealg.MaxLen"], loops := true, apart := false, narrowed := true }
def TreeSamesUptoSaid : Prop := treeSamesUptoRow.holds Try.pinned (OpenSpec.upto treeSamesSpec)

/-- 'flotsamlaw16.TreeApart', WHERE WHAT IT READS IS OF BULK AT MOST 1048576: true; the input reads as it did. -/
def treeApartUptoRow : OpenClaim := { program := "ythboieenfnpeeaa", sum := "f2d0a5b7647bb2d1bf90faf53ac14fed03e517b631a1c443a6106a70105d7ae9", func := "flotsam/flotsamlaw16.TreeApart", spec := "treeApart", inPlace := ["internal/bytealg.IndexByteString", "internal/bytealg.IndexString"], unfollowed := true, recurses := true, named := ["internal/bytealg.MaxLen"], loops := true, apart := false, narrowed := true }
def TreeApartUptoSaid : Prop := treeApartUptoRow.holds Try.pinned (OpenSpec.upto treeApartSpec)

/-- 'flotsamlaw19.TypesCheck', WHERE WHAT IT READS IS OF BULK AT MOST 1048576: true; the input reads as it did. -/
def typesCheckUptoRow : OpenClaim := { program := "ythboieenfnpeeaa", sum := "f2d0a5b7647bb2d1bf90faf53ac14fed03e517b631a1c443a6106a70105d7ae9", func := "flotsam/flotsamlaw19.TypesCheck", spec := "typesCheck", inPlace := ["internal/bytealg.IndexByteString", "internal/bytealg.IndexString"], unfollowed := true, recurses := true, named := ["internal/bytealg.MaxLen"], loops := true, apart := false, narrowed := true }
def TypesCheckUptoSaid : Prop := typesCheckUptoRow.holds Try.pinned (OpenSpec.upto typesCheckSpec)

/-- 'flotsamlaw19.TypesDrops', WHERE WHAT IT READS IS OF BULK AT MOST 1048576: true; the input reads as it did. -/
def typesDropsUptoRow : OpenClaim := { program := "ythboieenfnpeeaa", sum := "f2d0a5b7647bb2d1bf90faf53ac14fed03e517b631a1c443a6106a70105d7ae9", func := "flotsam/flotsamlaw19.TypesDrops", spec := "typesDrops", inPlace := ["internal/bytealg.IndexByteString", "internal/bytealg.IndexString"], unfollowed := true, recurses := true, named := ["internal/bytealg.MaxLen"], loops := true, apart := false, narrowed := true }
def TypesDropsUptoSaid : Prop := typesDropsUptoRow.holds Try.pinned (OpenSpec.upto typesDropsSpec)

/-- 'flotsamlaw19.TypesMoves', WHERE WHAT IT READS IS OF BULK AT MOST 1048576: true; the input reads as it did. -/
def typesMovesUptoRow : OpenClaim := { program := "ythboieenfnpeeaa", sum := "f2d0a5b7647bb2d1bf90faf53ac14fed03e517b631a1c443a6106a70105d7ae9", func := "flotsam/flotsamlaw19.TypesMoves", spec := "typesMoves", inPlace := ["internal/bytealg.IndexByteString", "internal/bytealg.IndexString"], unfollowed := true, recurses := true, named := ["internal/bytealg.MaxLen"], loops := true, apart := false, narrowed := true }
def TypesMovesUptoSaid : Prop := typesMovesUptoRow.holds Try.pinned (OpenSpec.upto typesMovesSpec)

/-- 'flotsamlaw26.RewriteOne', WHERE WHAT IT READS IS OF BULK AT MOST 1048576: true; the input reads as it did. -/
def rewriteOneUptoRow : OpenClaim := { program := "ythboieenfnpeeaa", sum := "f2d0a5b7647bb2d1bf90faf53ac14fed03e517b631a1c443a6106a70105d7ae9", func := "flotsam/flotsamlaw26.RewriteOne", spec := "rewriteOne", inPlace := ["internal/bytealg.IndexByteString", "internal/bytealg.IndexString"], unfollowed := true, recurses := true, named := ["internal/bytealg.MaxLen"], loops := true, apart := false, narrowed := true }
def RewriteOneUptoSaid : Prop := rewriteOneUptoRow.holds Try.pinned (OpenSpec.upto rewriteOneSpec)

end Rows
end Go.Proofs.Ythboieenfnpeeaa
