/-
  Facts that the row's joint check of AlikeSame asks for, part 2.
-/
import Derived.Test.YtbgblfbbeamleaaGreatDoorRows
import Derived.JoinedOf
import Derived.ProofKit
import Derived.Lay
import Derived.WalkKit
import Derived.OpenShut
namespace Go.Proofs.YtbgblfbbeamleaaGreatDoor.alikeSame
open Go.ChangeShapes Go.WideShapes Go.ChangeAt Go.RowKit
theorem fact9 : ((Rows.alikeSameRow.inPlace == Tryz.pinned.checked.prog.inPlace 3)) = true := by kernel_rfl
theorem fact10 : ((Rows.alikeSameRow.unfollowed == Tryz.pinned.checked.prog.unfollowed 3)) = true := by kernel_rfl
theorem fact11 : ((Rows.alikeSameRow.recurses == Tryz.pinned.checked.prog.recurses 3)) = true := by kernel_rfl
theorem fact12 : ((Rows.alikeSameRow.named == Tryz.pinned.checked.prog.varsNamed 3)) = true := by kernel_rfl
end Go.Proofs.YtbgblfbbeamleaaGreatDoor.alikeSame
