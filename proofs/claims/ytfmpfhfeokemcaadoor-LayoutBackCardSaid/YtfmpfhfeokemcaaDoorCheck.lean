/-
  The abstract code of each function fits the loaded function; printed by a program (gen.py).
-/
import Derived.Test.YtfmpfhfeokemcaaDoorCode
import Derived.Test.YtfmpfhfeokemcaaDoorRun
import Derived.Test.YtfmpfhfeokemcaaDoorChecked
namespace Go.Proofs.YtfmpfhfeokemcaaDoor
open Go.AM

theorem k_flotsamlaw07_LayoutInodes : chkF Tryd.prog Tryd.f3 c_flotsamlaw07_LayoutInodes = true := by kernel_rfl
theorem k_flotsamlaw07_LayoutMounts : chkF Tryd.prog Tryd.f4 c_flotsamlaw07_LayoutMounts = true := by kernel_rfl
theorem k_flotsamlaw07_LayoutEntries : chkF Tryd.prog Tryd.f5 c_flotsamlaw07_LayoutEntries = true := by kernel_rfl
theorem k_flotsamlaw07_LayoutBack : chkF Tryd.prog Tryd.f6 c_flotsamlaw07_LayoutBack = true := by kernel_rfl
theorem k_layout_Inode : chkF Tryd.prog Tryd.f7 c_layout_Inode = true := by kernel_rfl
theorem k_flotsamref07_Inode : chkF Tryd.prog Tryd.f8 c_flotsamref07_Inode = true := by kernel_rfl
theorem k_layout_InodeOf : chkF Tryd.prog Tryd.f9 c_layout_InodeOf = true := by kernel_rfl
theorem k_flotsamref07_InodeOf : chkF Tryd.prog Tryd.f10 c_flotsamref07_InodeOf = true := by kernel_rfl
theorem k_layout_RightInode : chkF Tryd.prog Tryd.f11 c_layout_RightInode = true := by kernel_rfl
theorem k_flotsamref07_RightInode : chkF Tryd.prog Tryd.f12 c_flotsamref07_RightInode = true := by kernel_rfl
theorem k_flotsamlaw07_knows : chkF Tryd.prog Tryd.f13 c_flotsamlaw07_knows = true := by kernel_rfl
theorem k_flotsamlaw04_Same : chkF Tryd.prog Tryd.f14 c_flotsamlaw04_Same = true := by kernel_rfl
theorem k_layout_Empty : chkF Tryd.prog Tryd.f15 c_layout_Empty = true := by kernel_rfl
theorem k_flotsamref07_Empty : chkF Tryd.prog Tryd.f16 c_flotsamref07_Empty = true := by kernel_rfl
theorem k_layout_Mounts : chkF Tryd.prog Tryd.f17 c_layout_Mounts = true := by kernel_rfl
theorem k_flotsamref07_Mounts : chkF Tryd.prog Tryd.f18 c_flotsamref07_Mounts = true := by kernel_rfl
theorem k_layout_Entry : chkF Tryd.prog Tryd.f19 c_layout_Entry = true := by kernel_rfl
theorem k_flotsamref07_Entry : chkF Tryd.prog Tryd.f20 c_flotsamref07_Entry = true := by kernel_rfl
theorem k_layout_EntryOf : chkF Tryd.prog Tryd.f21 c_layout_EntryOf = true := by kernel_rfl
theorem k_flotsamref07_EntryOf : chkF Tryd.prog Tryd.f22 c_flotsamref07_EntryOf = true := by kernel_rfl
theorem k_layout_RightEntry : chkF Tryd.prog Tryd.f23 c_layout_RightEntry = true := by kernel_rfl
theorem k_flotsamref07_RightEntry : chkF Tryd.prog Tryd.f24 c_flotsamref07_RightEntry = true := by kernel_rfl
theorem k_layout_Name : chkF Tryd.prog Tryd.f25 c_layout_Name = true := by kernel_rfl
theorem k_flotsamref07_Name : chkF Tryd.prog Tryd.f26 c_flotsamref07_Name = true := by kernel_rfl
theorem k_sector_Torn : chkF Tryd.prog Tryd.f27 c_sector_Torn = true := by kernel_rfl
theorem k_slices_Clone_int_int : chkF Tryd.prog Tryd.f28 c_slices_Clone_int_int = true := by kernel_rfl
theorem k_layout_need : chkF Tryd.prog Tryd.f29 c_layout_need = true := by kernel_rfl
theorem k_layout_RightInode_1 : chkF Tryd.prog Tryd.f30 c_layout_RightInode_1 = true := by kernel_rfl
theorem k_slices_ContainsFunc_int_int : chkF Tryd.prog Tryd.f31 c_slices_ContainsFunc_int_int = true := by kernel_rfl
theorem k_layout_RightInode_2 : chkF Tryd.prog Tryd.f32 c_layout_RightInode_2 = true := by kernel_rfl
theorem k_slices_Sort_int_int : chkF Tryd.prog Tryd.f33 c_slices_Sort_int_int = true := by kernel_rfl
theorem k_slices_Compact_int_int : chkF Tryd.prog Tryd.f34 c_slices_Compact_int_int = true := by kernel_rfl
theorem k_flotsamref07_Need : chkF Tryd.prog Tryd.f35 c_flotsamref07_Need = true := by kernel_rfl
theorem k_flotsamref04_Unlike : chkF Tryd.prog Tryd.f36 c_flotsamref04_Unlike = true := by kernel_rfl
theorem k_flotsamref07_Super : chkF Tryd.prog Tryd.f38 c_flotsamref07_Super = true := by kernel_rfl
theorem k_sector_Zero : chkF Tryd.prog Tryd.f39 c_sector_Zero = true := by kernel_rfl
theorem k_sector_Cut : chkF Tryd.prog Tryd.f40 c_sector_Cut = true := by kernel_rfl
theorem k_layout_RightEntry_1 : chkF Tryd.prog Tryd.f41 c_layout_RightEntry_1 = true := by kernel_rfl
theorem k_slices_IndexFunc_int_int : chkF Tryd.prog Tryd.f43 c_slices_IndexFunc_int_int = true := by kernel_rfl
theorem k_slices_pdqsortOrdered_int : chkF Tryd.prog Tryd.f44 c_slices_pdqsortOrdered_int = true := by kernel_rfl
theorem k_math_bits_Len : chkF Tryd.prog Tryd.f45 c_math_bits_Len = true := by kernel_rfl
theorem k_sector_Of : chkF Tryd.prog Tryd.f46 c_sector_Of = true := by kernel_rfl
theorem k_sector_fits : chkF Tryd.prog Tryd.f47 c_sector_fits = true := by kernel_rfl
theorem k_bytes_Clone : chkF Tryd.prog Tryd.f48 c_bytes_Clone = true := by kernel_rfl
theorem k_slices_insertionSortOrdered_int : chkF Tryd.prog Tryd.f56 c_slices_insertionSortOrdered_int = true := by kernel_rfl
theorem k_slices_heapSortOrdered_int : chkF Tryd.prog Tryd.f57 c_slices_heapSortOrdered_int = true := by kernel_rfl
theorem k_slices_breakPatternsOrdered_int : chkF Tryd.prog Tryd.f58 c_slices_breakPatternsOrdered_int = true := by kernel_rfl
theorem k_slices_choosePivotOrdered_int : chkF Tryd.prog Tryd.f59 c_slices_choosePivotOrdered_int = true := by kernel_rfl
theorem k_slices_reverseRangeOrdered_int : chkF Tryd.prog Tryd.f60 c_slices_reverseRangeOrdered_int = true := by kernel_rfl
theorem k_slices_partialInsertionSortOrdered_int : chkF Tryd.prog Tryd.f61 c_slices_partialInsertionSortOrdered_int = true := by kernel_rfl
theorem k_cmp_Less_int : chkF Tryd.prog Tryd.f62 c_cmp_Less_int = true := by kernel_rfl
theorem k_slices_partitionEqualOrdered_int : chkF Tryd.prog Tryd.f63 c_slices_partitionEqualOrdered_int = true := by kernel_rfl
theorem k_slices_partitionOrdered_int : chkF Tryd.prog Tryd.f64 c_slices_partitionOrdered_int = true := by kernel_rfl
theorem k_math_bits_Len32 : chkF Tryd.prog Tryd.f65 c_math_bits_Len32 = true := by kernel_rfl
theorem k_math_bits_Len64 : chkF Tryd.prog Tryd.f66 c_math_bits_Len64 = true := by kernel_rfl
theorem k_sector_Put : chkF Tryd.prog Tryd.f67 c_sector_Put = true := by kernel_rfl
theorem k_slices_siftDownOrdered_int : chkF Tryd.prog Tryd.f72 c_slices_siftDownOrdered_int = true := by kernel_rfl
theorem k_slices_nextPowerOfTwo : chkF Tryd.prog Tryd.f73 c_slices_nextPowerOfTwo = true := by kernel_rfl
theorem k_pslices_xorshift_Next : chkF Tryd.prog Tryd.f74 c_pslices_xorshift_Next = true := by kernel_rfl
theorem k_slices_medianAdjacentOrdered_int : chkF Tryd.prog Tryd.f75 c_slices_medianAdjacentOrdered_int = true := by kernel_rfl
theorem k_slices_medianOrdered_int : chkF Tryd.prog Tryd.f76 c_slices_medianOrdered_int = true := by kernel_rfl
theorem k_cmp_isNaN_int : chkF Tryd.prog Tryd.f77 c_cmp_isNaN_int = true := by kernel_rfl
theorem k_slices_order2Ordered_int : chkF Tryd.prog Tryd.f81 c_slices_order2Ordered_int = true := by kernel_rfl

set_option maxRecDepth 100000 in
theorem fits : ∀ k af, tbl k = some af → k < yBase → (∃ fn, Tryd.prog.funcs[k]? = some fn ∧ chkF Tryd.prog fn af = true) ∧ LabC tbl af.body :=
  Tab.cons (p := fun k af => k < yBase → (∃ fn, Tryd.prog.funcs[k]? = some fn ∧ chkF Tryd.prog fn af = true) ∧ LabC tbl af.body) (fun _ => ⟨⟨_, Tryd.func3, k_flotsamlaw07_LayoutInodes⟩, (LabC.none rfl)⟩) <|
  Tab.cons (p := fun k af => k < yBase → (∃ fn, Tryd.prog.funcs[k]? = some fn ∧ chkF Tryd.prog fn af = true) ∧ LabC tbl af.body) (fun _ => ⟨⟨_, Tryd.func4, k_flotsamlaw07_LayoutMounts⟩, (LabC.none rfl)⟩) <|
  Tab.cons (p := fun k af => k < yBase → (∃ fn, Tryd.prog.funcs[k]? = some fn ∧ chkF Tryd.prog fn af = true) ∧ LabC tbl af.body) (fun _ => ⟨⟨_, Tryd.func5, k_flotsamlaw07_LayoutEntries⟩, (LabC.none rfl)⟩) <|
  Tab.cons (p := fun k af => k < yBase → (∃ fn, Tryd.prog.funcs[k]? = some fn ∧ chkF Tryd.prog fn af = true) ∧ LabC tbl af.body) (fun _ => ⟨⟨_, Tryd.func6, k_flotsamlaw07_LayoutBack⟩, (LabC.none rfl)⟩) <|
  Tab.cons (p := fun k af => k < yBase → (∃ fn, Tryd.prog.funcs[k]? = some fn ∧ chkF Tryd.prog fn af = true) ∧ LabC tbl af.body) (fun _ => ⟨⟨_, Tryd.func7, k_layout_Inode⟩, (LabC.none rfl)⟩) <|
  Tab.cons (p := fun k af => k < yBase → (∃ fn, Tryd.prog.funcs[k]? = some fn ∧ chkF Tryd.prog fn af = true) ∧ LabC tbl af.body) (fun _ => ⟨⟨_, Tryd.func8, k_flotsamref07_Inode⟩, (LabC.none rfl)⟩) <|
  Tab.cons (p := fun k af => k < yBase → (∃ fn, Tryd.prog.funcs[k]? = some fn ∧ chkF Tryd.prog fn af = true) ∧ LabC tbl af.body) (fun _ => ⟨⟨_, Tryd.func9, k_layout_InodeOf⟩, (LabC.none rfl)⟩) <|
  Tab.cons (p := fun k af => k < yBase → (∃ fn, Tryd.prog.funcs[k]? = some fn ∧ chkF Tryd.prog fn af = true) ∧ LabC tbl af.body) (fun _ => ⟨⟨_, Tryd.func10, k_flotsamref07_InodeOf⟩, (LabC.none rfl)⟩) <|
  Tab.cons (p := fun k af => k < yBase → (∃ fn, Tryd.prog.funcs[k]? = some fn ∧ chkF Tryd.prog fn af = true) ∧ LabC tbl af.body) (fun _ => ⟨⟨_, Tryd.func11, k_layout_RightInode⟩, (LabC.none rfl)⟩) <|
  Tab.cons (p := fun k af => k < yBase → (∃ fn, Tryd.prog.funcs[k]? = some fn ∧ chkF Tryd.prog fn af = true) ∧ LabC tbl af.body) (fun _ => ⟨⟨_, Tryd.func12, k_flotsamref07_RightInode⟩, (LabC.none rfl)⟩) <|
  Tab.cons (p := fun k af => k < yBase → (∃ fn, Tryd.prog.funcs[k]? = some fn ∧ chkF Tryd.prog fn af = true) ∧ LabC tbl af.body) (fun _ => ⟨⟨_, Tryd.func13, k_flotsamlaw07_knows⟩, (LabC.none rfl)⟩) <|
  Tab.cons (p := fun k af => k < yBase → (∃ fn, Tryd.prog.funcs[k]? = some fn ∧ chkF Tryd.prog fn af = true) ∧ LabC tbl af.body) (fun _ => ⟨⟨_, Tryd.func14, k_flotsamlaw04_Same⟩, (LabC.none rfl)⟩) <|
  Tab.cons (p := fun k af => k < yBase → (∃ fn, Tryd.prog.funcs[k]? = some fn ∧ chkF Tryd.prog fn af = true) ∧ LabC tbl af.body) (fun _ => ⟨⟨_, Tryd.func15, k_layout_Empty⟩, (LabC.none rfl)⟩) <|
  Tab.cons (p := fun k af => k < yBase → (∃ fn, Tryd.prog.funcs[k]? = some fn ∧ chkF Tryd.prog fn af = true) ∧ LabC tbl af.body) (fun _ => ⟨⟨_, Tryd.func16, k_flotsamref07_Empty⟩, (LabC.none rfl)⟩) <|
  Tab.cons (p := fun k af => k < yBase → (∃ fn, Tryd.prog.funcs[k]? = some fn ∧ chkF Tryd.prog fn af = true) ∧ LabC tbl af.body) (fun _ => ⟨⟨_, Tryd.func17, k_layout_Mounts⟩, (LabC.none rfl)⟩) <|
  Tab.cons (p := fun k af => k < yBase → (∃ fn, Tryd.prog.funcs[k]? = some fn ∧ chkF Tryd.prog fn af = true) ∧ LabC tbl af.body) (fun _ => ⟨⟨_, Tryd.func18, k_flotsamref07_Mounts⟩, (LabC.none rfl)⟩) <|
  Tab.cons (p := fun k af => k < yBase → (∃ fn, Tryd.prog.funcs[k]? = some fn ∧ chkF Tryd.prog fn af = true) ∧ LabC tbl af.body) (fun _ => ⟨⟨_, Tryd.func19, k_layout_Entry⟩, (LabC.none rfl)⟩) <|
  Tab.cons (p := fun k af => k < yBase → (∃ fn, Tryd.prog.funcs[k]? = some fn ∧ chkF Tryd.prog fn af = true) ∧ LabC tbl af.body) (fun _ => ⟨⟨_, Tryd.func20, k_flotsamref07_Entry⟩, (LabC.none rfl)⟩) <|
  Tab.cons (p := fun k af => k < yBase → (∃ fn, Tryd.prog.funcs[k]? = some fn ∧ chkF Tryd.prog fn af = true) ∧ LabC tbl af.body) (fun _ => ⟨⟨_, Tryd.func21, k_layout_EntryOf⟩, (LabC.none rfl)⟩) <|
  Tab.cons (p := fun k af => k < yBase → (∃ fn, Tryd.prog.funcs[k]? = some fn ∧ chkF Tryd.prog fn af = true) ∧ LabC tbl af.body) (fun _ => ⟨⟨_, Tryd.func22, k_flotsamref07_EntryOf⟩, (LabC.none rfl)⟩) <|
  Tab.cons (p := fun k af => k < yBase → (∃ fn, Tryd.prog.funcs[k]? = some fn ∧ chkF Tryd.prog fn af = true) ∧ LabC tbl af.body) (fun _ => ⟨⟨_, Tryd.func23, k_layout_RightEntry⟩, (LabC.none rfl)⟩) <|
  Tab.cons (p := fun k af => k < yBase → (∃ fn, Tryd.prog.funcs[k]? = some fn ∧ chkF Tryd.prog fn af = true) ∧ LabC tbl af.body) (fun _ => ⟨⟨_, Tryd.func24, k_flotsamref07_RightEntry⟩, (LabC.none rfl)⟩) <|
  Tab.cons (p := fun k af => k < yBase → (∃ fn, Tryd.prog.funcs[k]? = some fn ∧ chkF Tryd.prog fn af = true) ∧ LabC tbl af.body) (fun _ => ⟨⟨_, Tryd.func25, k_layout_Name⟩, (LabC.none rfl)⟩) <|
  Tab.cons (p := fun k af => k < yBase → (∃ fn, Tryd.prog.funcs[k]? = some fn ∧ chkF Tryd.prog fn af = true) ∧ LabC tbl af.body) (fun _ => ⟨⟨_, Tryd.func26, k_flotsamref07_Name⟩, (LabC.none rfl)⟩) <|
  Tab.cons (p := fun k af => k < yBase → (∃ fn, Tryd.prog.funcs[k]? = some fn ∧ chkF Tryd.prog fn af = true) ∧ LabC tbl af.body) (fun _ => ⟨⟨_, Tryd.func27, k_sector_Torn⟩, (LabC.none rfl)⟩) <|
  Tab.cons (p := fun k af => k < yBase → (∃ fn, Tryd.prog.funcs[k]? = some fn ∧ chkF Tryd.prog fn af = true) ∧ LabC tbl af.body) (fun _ => ⟨⟨_, Tryd.func28, k_slices_Clone_int_int⟩, (LabC.none rfl)⟩) <|
  Tab.cons (p := fun k af => k < yBase → (∃ fn, Tryd.prog.funcs[k]? = some fn ∧ chkF Tryd.prog fn af = true) ∧ LabC tbl af.body) (fun _ => ⟨⟨_, Tryd.func29, k_layout_need⟩, (LabC.none rfl)⟩) <|
  Tab.cons (p := fun k af => k < yBase → (∃ fn, Tryd.prog.funcs[k]? = some fn ∧ chkF Tryd.prog fn af = true) ∧ LabC tbl af.body) (fun _ => ⟨⟨_, Tryd.func30, k_layout_RightInode_1⟩, (LabC.none rfl)⟩) <|
  Tab.cons (p := fun k af => k < yBase → (∃ fn, Tryd.prog.funcs[k]? = some fn ∧ chkF Tryd.prog fn af = true) ∧ LabC tbl af.body) (fun _ => ⟨⟨_, Tryd.func31, k_slices_ContainsFunc_int_int⟩, (LabC.none rfl)⟩) <|
  Tab.cons (p := fun k af => k < yBase → (∃ fn, Tryd.prog.funcs[k]? = some fn ∧ chkF Tryd.prog fn af = true) ∧ LabC tbl af.body) (fun _ => ⟨⟨_, Tryd.func32, k_layout_RightInode_2⟩, (LabC.none rfl)⟩) <|
  Tab.cons (p := fun k af => k < yBase → (∃ fn, Tryd.prog.funcs[k]? = some fn ∧ chkF Tryd.prog fn af = true) ∧ LabC tbl af.body) (fun _ => ⟨⟨_, Tryd.func33, k_slices_Sort_int_int⟩, (LabC.none rfl)⟩) <|
  Tab.cons (p := fun k af => k < yBase → (∃ fn, Tryd.prog.funcs[k]? = some fn ∧ chkF Tryd.prog fn af = true) ∧ LabC tbl af.body) (fun _ => ⟨⟨_, Tryd.func34, k_slices_Compact_int_int⟩, (LabC.none rfl)⟩) <|
  Tab.cons (p := fun k af => k < yBase → (∃ fn, Tryd.prog.funcs[k]? = some fn ∧ chkF Tryd.prog fn af = true) ∧ LabC tbl af.body) (fun _ => ⟨⟨_, Tryd.func35, k_flotsamref07_Need⟩, (LabC.none rfl)⟩) <|
  Tab.cons (p := fun k af => k < yBase → (∃ fn, Tryd.prog.funcs[k]? = some fn ∧ chkF Tryd.prog fn af = true) ∧ LabC tbl af.body) (fun _ => ⟨⟨_, Tryd.func36, k_flotsamref04_Unlike⟩, (LabC.none rfl)⟩) <|
  Tab.cons (p := fun k af => k < yBase → (∃ fn, Tryd.prog.funcs[k]? = some fn ∧ chkF Tryd.prog fn af = true) ∧ LabC tbl af.body) (fun _ => ⟨⟨_, Tryd.func38, k_flotsamref07_Super⟩, (LabC.none rfl)⟩) <|
  Tab.cons (p := fun k af => k < yBase → (∃ fn, Tryd.prog.funcs[k]? = some fn ∧ chkF Tryd.prog fn af = true) ∧ LabC tbl af.body) (fun _ => ⟨⟨_, Tryd.func39, k_sector_Zero⟩, (LabC.none rfl)⟩) <|
  Tab.cons (p := fun k af => k < yBase → (∃ fn, Tryd.prog.funcs[k]? = some fn ∧ chkF Tryd.prog fn af = true) ∧ LabC tbl af.body) (fun _ => ⟨⟨_, Tryd.func40, k_sector_Cut⟩, (LabC.none rfl)⟩) <|
  Tab.cons (p := fun k af => k < yBase → (∃ fn, Tryd.prog.funcs[k]? = some fn ∧ chkF Tryd.prog fn af = true) ∧ LabC tbl af.body) (fun _ => ⟨⟨_, Tryd.func41, k_layout_RightEntry_1⟩, (LabC.none rfl)⟩) <|
  Tab.cons (p := fun k af => k < yBase → (∃ fn, Tryd.prog.funcs[k]? = some fn ∧ chkF Tryd.prog fn af = true) ∧ LabC tbl af.body) (fun _ => ⟨⟨_, Tryd.func43, k_slices_IndexFunc_int_int⟩, (LabC.none rfl)⟩) <|
  Tab.cons (p := fun k af => k < yBase → (∃ fn, Tryd.prog.funcs[k]? = some fn ∧ chkF Tryd.prog fn af = true) ∧ LabC tbl af.body) (fun _ => ⟨⟨_, Tryd.func44, k_slices_pdqsortOrdered_int⟩, (LabC.none rfl)⟩) <|
  Tab.cons (p := fun k af => k < yBase → (∃ fn, Tryd.prog.funcs[k]? = some fn ∧ chkF Tryd.prog fn af = true) ∧ LabC tbl af.body) (fun _ => ⟨⟨_, Tryd.func45, k_math_bits_Len⟩, (LabC.none rfl)⟩) <|
  Tab.cons (p := fun k af => k < yBase → (∃ fn, Tryd.prog.funcs[k]? = some fn ∧ chkF Tryd.prog fn af = true) ∧ LabC tbl af.body) (fun _ => ⟨⟨_, Tryd.func46, k_sector_Of⟩, (LabC.none rfl)⟩) <|
  Tab.cons (p := fun k af => k < yBase → (∃ fn, Tryd.prog.funcs[k]? = some fn ∧ chkF Tryd.prog fn af = true) ∧ LabC tbl af.body) (fun _ => ⟨⟨_, Tryd.func47, k_sector_fits⟩, (LabC.none rfl)⟩) <|
  Tab.cons (p := fun k af => k < yBase → (∃ fn, Tryd.prog.funcs[k]? = some fn ∧ chkF Tryd.prog fn af = true) ∧ LabC tbl af.body) (fun _ => ⟨⟨_, Tryd.func48, k_bytes_Clone⟩, (LabC.none rfl)⟩) <|
  Tab.cons (p := fun k af => k < yBase → (∃ fn, Tryd.prog.funcs[k]? = some fn ∧ chkF Tryd.prog fn af = true) ∧ LabC tbl af.body) (fun _ => ⟨⟨_, Tryd.func56, k_slices_insertionSortOrdered_int⟩, (LabC.none rfl)⟩) <|
  Tab.cons (p := fun k af => k < yBase → (∃ fn, Tryd.prog.funcs[k]? = some fn ∧ chkF Tryd.prog fn af = true) ∧ LabC tbl af.body) (fun _ => ⟨⟨_, Tryd.func57, k_slices_heapSortOrdered_int⟩, (LabC.none rfl)⟩) <|
  Tab.cons (p := fun k af => k < yBase → (∃ fn, Tryd.prog.funcs[k]? = some fn ∧ chkF Tryd.prog fn af = true) ∧ LabC tbl af.body) (fun _ => ⟨⟨_, Tryd.func58, k_slices_breakPatternsOrdered_int⟩, (LabC.none rfl)⟩) <|
  Tab.cons (p := fun k af => k < yBase → (∃ fn, Tryd.prog.funcs[k]? = some fn ∧ chkF Tryd.prog fn af = true) ∧ LabC tbl af.body) (fun _ => ⟨⟨_, Tryd.func59, k_slices_choosePivotOrdered_int⟩, (LabC.none rfl)⟩) <|
  Tab.cons (p := fun k af => k < yBase → (∃ fn, Tryd.prog.funcs[k]? = some fn ∧ chkF Tryd.prog fn af = true) ∧ LabC tbl af.body) (fun _ => ⟨⟨_, Tryd.func60, k_slices_reverseRangeOrdered_int⟩, (LabC.none rfl)⟩) <|
  Tab.cons (p := fun k af => k < yBase → (∃ fn, Tryd.prog.funcs[k]? = some fn ∧ chkF Tryd.prog fn af = true) ∧ LabC tbl af.body) (fun _ => ⟨⟨_, Tryd.func61, k_slices_partialInsertionSortOrdered_int⟩, (LabC.none rfl)⟩) <|
  Tab.cons (p := fun k af => k < yBase → (∃ fn, Tryd.prog.funcs[k]? = some fn ∧ chkF Tryd.prog fn af = true) ∧ LabC tbl af.body) (fun _ => ⟨⟨_, Tryd.func62, k_cmp_Less_int⟩, (LabC.none rfl)⟩) <|
  Tab.cons (p := fun k af => k < yBase → (∃ fn, Tryd.prog.funcs[k]? = some fn ∧ chkF Tryd.prog fn af = true) ∧ LabC tbl af.body) (fun _ => ⟨⟨_, Tryd.func63, k_slices_partitionEqualOrdered_int⟩, (LabC.none rfl)⟩) <|
  Tab.cons (p := fun k af => k < yBase → (∃ fn, Tryd.prog.funcs[k]? = some fn ∧ chkF Tryd.prog fn af = true) ∧ LabC tbl af.body) (fun _ => ⟨⟨_, Tryd.func64, k_slices_partitionOrdered_int⟩, (LabC.none rfl)⟩) <|
  Tab.cons (p := fun k af => k < yBase → (∃ fn, Tryd.prog.funcs[k]? = some fn ∧ chkF Tryd.prog fn af = true) ∧ LabC tbl af.body) (fun _ => ⟨⟨_, Tryd.func65, k_math_bits_Len32⟩, (LabC.none rfl)⟩) <|
  Tab.cons (p := fun k af => k < yBase → (∃ fn, Tryd.prog.funcs[k]? = some fn ∧ chkF Tryd.prog fn af = true) ∧ LabC tbl af.body) (fun _ => ⟨⟨_, Tryd.func66, k_math_bits_Len64⟩, (LabC.none rfl)⟩) <|
  Tab.cons (p := fun k af => k < yBase → (∃ fn, Tryd.prog.funcs[k]? = some fn ∧ chkF Tryd.prog fn af = true) ∧ LabC tbl af.body) (fun _ => ⟨⟨_, Tryd.func67, k_sector_Put⟩, (LabC.none rfl)⟩) <|
  Tab.cons (p := fun k af => k < yBase → (∃ fn, Tryd.prog.funcs[k]? = some fn ∧ chkF Tryd.prog fn af = true) ∧ LabC tbl af.body) (fun _ => ⟨⟨_, Tryd.func72, k_slices_siftDownOrdered_int⟩, (LabC.none rfl)⟩) <|
  Tab.cons (p := fun k af => k < yBase → (∃ fn, Tryd.prog.funcs[k]? = some fn ∧ chkF Tryd.prog fn af = true) ∧ LabC tbl af.body) (fun _ => ⟨⟨_, Tryd.func73, k_slices_nextPowerOfTwo⟩, (LabC.none rfl)⟩) <|
  Tab.cons (p := fun k af => k < yBase → (∃ fn, Tryd.prog.funcs[k]? = some fn ∧ chkF Tryd.prog fn af = true) ∧ LabC tbl af.body) (fun _ => ⟨⟨_, Tryd.func74, k_pslices_xorshift_Next⟩, (LabC.none rfl)⟩) <|
  Tab.cons (p := fun k af => k < yBase → (∃ fn, Tryd.prog.funcs[k]? = some fn ∧ chkF Tryd.prog fn af = true) ∧ LabC tbl af.body) (fun _ => ⟨⟨_, Tryd.func75, k_slices_medianAdjacentOrdered_int⟩, (LabC.none rfl)⟩) <|
  Tab.cons (p := fun k af => k < yBase → (∃ fn, Tryd.prog.funcs[k]? = some fn ∧ chkF Tryd.prog fn af = true) ∧ LabC tbl af.body) (fun _ => ⟨⟨_, Tryd.func76, k_slices_medianOrdered_int⟩, (LabC.none rfl)⟩) <|
  Tab.cons (p := fun k af => k < yBase → (∃ fn, Tryd.prog.funcs[k]? = some fn ∧ chkF Tryd.prog fn af = true) ∧ LabC tbl af.body) (fun _ => ⟨⟨_, Tryd.func77, k_cmp_isNaN_int⟩, (LabC.none rfl)⟩) <|
  Tab.cons (p := fun k af => k < yBase → (∃ fn, Tryd.prog.funcs[k]? = some fn ∧ chkF Tryd.prog fn af = true) ∧ LabC tbl af.body) (fun _ => ⟨⟨_, Tryd.func81, k_slices_order2Ordered_int⟩, (LabC.none rfl)⟩) <|
  Tab.nil

end Go.Proofs.YtfmpfhfeokemcaaDoor
