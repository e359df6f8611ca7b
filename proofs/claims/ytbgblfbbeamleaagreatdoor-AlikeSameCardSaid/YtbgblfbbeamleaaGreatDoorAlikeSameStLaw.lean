/-
  The law 'AlikeSame' of flotsamlaw41 is true for every input, where the listed variables of Go's library read as its text lays them: the row and its tied card, the given statement 'AlikeSameCardSaid'.
-/
import Derived.Test.YtbgblfbbeamleaaGreatDoorSpecAk
import Derived.Lib.LaidTab
import Derived.Test.YtbgblfbbeamleaaGreatDoorXts
import Derived.HandedShaped
import Derived.Shelf.Vars
import Derived.Test.YtbgblfbbeamleaaGreatDoorCards
import Derived.Test.YtbgblfbbeamleaaGreatDoorTie
import Derived.SevenTiedAt
import Derived.Lay
import Derived.WalkKit
import Derived.ProofKit
import Derived.OpenShut
import Derived.ShutString
import Derived.Carry
import Derived.Test.YtbgblfbbeamleaaGreatDoorCheck
import Derived.Test.YtbgblfbbeamleaaGreatDoorLaw
import Derived.Test.YtbgblfbbeamleaaGreatDoorDoor
import Derived.Test.YtbgblfbbeamleaaGreatDoorSpecAm
import Derived.Test.YtbgblfbbeamleaaGreatDoorAlikeSameStLawA
import Derived.Test.YtbgblfbbeamleaaGreatDoorAlikeSameStF1
import Derived.Test.YtbgblfbbeamleaaGreatDoorAlikeSameStF2
namespace Go.Proofs.YtbgblfbbeamleaaGreatDoor.alikeSame
open Go.ChangeShapes Go.WideShapes Go.ChangeAt Go.RowKit
open Go.AM
open Go.ChangeMaps (open_string shut_string)
set_option linter.unusedVariables false
set_option linter.unusedSimpArgs false

theorem and_tr {a b : Bool} (h : a = true) (k : b = true) : (a && b) = true := by rw [h, k]; rfl
set_option maxRecDepth 100000 in
theorem joint : joinedFacts Tryz.pinned.checked.prog 3 Tryz.f3 Rows.alikeSameSpec Rows.alikeSameRow = true := by
  unfold joinedFacts
  exact (and_tr (and_tr (and_tr (and_tr (and_tr (and_tr (and_tr (and_tr (and_tr (and_tr (and_tr (and_tr (and_tr (and_tr (and_tr (and_tr (and_tr (and_tr (and_tr (and_tr (and_tr (and_tr (and_tr (and_tr (and_tr (and_tr (and_tr (and_tr (and_tr (and_tr (and_tr fact0 fact1) fact2) fact3) fact4) fact5) fact6) fact7) fact8) fact9) fact10) fact11) fact12) fact13) fact14) fact15) fact16) fact17) fact18) fact19) fact20) fact21) fact22) fact23) fact24) fact25) fact26) fact27) fact28) fact29) fact30) fact31)

theorem over : Rows.alikeSameRow.holds Tryz.pinned (OpenSpec.ofChange Rows.alikeSameSpec) :=
  OpenClaim.holds_of_wide 3 Tryz.f3 rfl rfl rfl rfl rfl rfl rfl ⟨rfl, rfl, rfl, rfl, rfl⟩ rfl rfl rfl rfl rfl (by kernel_rfl) Tryz.func3 joint
    (of_decide_eq_true (by kernel_rfl)) (by unfold Func.isWrapper; first | (rw [if_pos (by decide +kernel)]; kernel_rfl) | (rw [if_neg (by decide +kernel)]; exact ⟨rfl, rfl⟩))
    (fun os started H enc _ => lifted os started H enc)

theorem cWf : Rows.alikeSameRow.wfByText (OpenSpec.ofChange Rows.alikeSameSpec) = true := by kernel_rfl
theorem cMain : Tryz.pinned.checked.prog.mainIs = some (true, "84aa0b03c37f086d626ba6d23e627998450d0a5c72356675880dd19257c9c766".toList) := by kernel_rfl
theorem cLooks : false = Tryz.pinned.checked.prog.looks [] := by kernel_rfl
theorem cNamed : Tryz.prog.funcNamed "flotsam/flotsamlaw41.AlikeSame" = some 3 := by kernel_rfl
theorem cAll : ([26, 26].all fun u => !Tryz.prog.wantsStandIn u) = true := by kernel_rfl
theorem gNone : ((List.range Tryz.prog.funcs.size).any fun g => (Tryz.prog.funcs[g]?).any Func.goes) = false := by kernel_rfl
theorem gAt (g : Nat) : (Tryz.prog.funcs[g]?).any Func.goes = false := by
  rcases Nat.lt_or_ge g Tryz.prog.funcs.size with h | h
  · have := List.any_eq_false.1 gNone g (List.mem_range.2 h)
    simpa using this
  · rw [Array.getElem?_eq_none h]; rfl
theorem gAll : Tryz.prog.funcs.any Func.goes = false := by
  rw [Array.any_eq_false]
  intro i h
  have := gAt i
  rw [Array.getElem?_eq_getElem h] at this
  simpa using this
theorem cGoes : false = Rows.alikeSameRow.goesBy Tryz.pinned.checked.prog := by
  show false = Tryz.prog.goesAt .entering "flotsam/flotsamlaw41.AlikeSame"
  unfold Program.goesAt Program.goesFrom
  cases h : Tryz.prog.funcNamed "flotsam/flotsamlaw41.AlikeSame" with
  | none => rfl
  | some f =>
    simp only [Option.any_some, Bool.or_false]
    unfold Program.goes
    rw [gAll, Bool.and_false, Bool.or_false]
    simp only [gAt]
    simp

/-- ████ THE STATEMENT ████ -/
theorem proved : Rows.AlikeSameCardSaid :=
  Claim7.holds_tied_plain_at .later [] [.data, .listed, .sentinel, .data, .pinned] true (true, "84aa0b03c37f086d626ba6d23e627998450d0a5c72356675880dd19257c9c766") false over (fun _ h => by cases h) cWf (fun _ h => by cases h) alikeSame_row_tie rfl ⟨rfl, rfl⟩ cMain rfl
    (fun f fn hf hfn => by
      obtain rfl : f = 3 := Option.some.inj (cNamed.symm.trans hf) |>.symm
      obtain rfl : fn = Tryz.f3 := (Option.some.inj (Tryz.func3.symm.trans hfn)).symm
      exact ⟨cLooks, fun j t ht => by
        rw [Tryz.params3] at ht
        have hm : t ∈ [26, 26] := by simpa using Array.mem_of_getElem? ht
        have hall : ([26, 26].all fun u => !Tryz.prog.wantsStandIn u) = true := cAll
        exact (show Tryz.prog.wantsStandIn t = false by simpa using List.all_eq_true.1 hall t hm)⟩)
    cGoes
#print axioms proved
end Go.Proofs.YtbgblfbbeamleaaGreatDoor.alikeSame
