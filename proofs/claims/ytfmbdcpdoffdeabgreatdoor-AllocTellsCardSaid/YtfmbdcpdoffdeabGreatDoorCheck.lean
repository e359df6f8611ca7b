/-
 The abstract code of each function fits the loaded function; printed by a program (gen.py).
-/
import Derived.Test.YtfmbdcpdoffdeabGreatDoorCode
import Derived.Test.YtfmbdcpdoffdeabGreatDoorRun
import Derived.Test.YtfmbdcpdoffdeabGreatDoorChecked
namespace Go.Proofs.YtfmbdcpdoffdeabGreatDoor
open Go.AM
theorem k_flotsamlaw10_AllocTells : chkF Tryz.prog Tryz.f3 c_flotsamlaw10_AllocTells = true := by kernel_rfl
theorem k_flotsamlaw10_knows : chkF Tryz.prog Tryz.f4 c_flotsamlaw10_knows = true := by kernel_rfl
theorem k_flotsamlaw09_Disk : chkF Tryz.prog Tryz.f5 c_flotsamlaw09_Disk = true := by kernel_rfl
theorem k_flotsamref09_With : chkF Tryz.prog Tryz.f6 c_flotsamref09_With = true := by kernel_rfl
theorem k_alloc_Inode : chkF Tryz.prog Tryz.f7 c_alloc_Inode = true := by kernel_rfl
theorem k_flotsamref10_Inode : chkF Tryz.prog Tryz.f8 c_flotsamref10_Inode = true := by kernel_rfl
theorem k_alloc_Slot : chkF Tryz.prog Tryz.f9 c_alloc_Slot = true := by kernel_rfl
theorem k_flotsamref10_Slot : chkF Tryz.prog Tryz.f10 c_flotsamref10_Slot = true := by kernel_rfl
theorem k_alloc_Blocks : chkF Tryz.prog Tryz.f11 c_alloc_Blocks = true := by kernel_rfl
theorem k_flotsamref10_Blocks : chkF Tryz.prog Tryz.f12 c_flotsamref10_Blocks = true := by kernel_rfl
theorem k_alloc_Count : chkF Tryz.prog Tryz.f13 c_alloc_Count = true := by kernel_rfl
theorem k_flotsamref10_Count : chkF Tryz.prog Tryz.f14 c_flotsamref10_Count = true := by kernel_rfl
theorem k_flotsamlaw04_Ints : chkF Tryz.prog Tryz.f15 c_flotsamlaw04_Ints = true := by kernel_rfl
theorem k_flotsamref07_Empty : chkF Tryz.prog Tryz.f16 c_flotsamref07_Empty = true := by kernel_rfl
theorem k_bdisk_From : chkF Tryz.prog Tryz.f17 c_bdisk_From = true := by kernel_rfl
theorem k_pbdisk_Disk_Write : chkF Tryz.prog Tryz.f18 c_pbdisk_Disk_Write = true := by kernel_rfl
theorem k_alloc_inodes : chkF Tryz.prog Tryz.f19 c_alloc_inodes = true := by kernel_rfl
theorem k_alloc_one : chkF Tryz.prog Tryz.f20 c_alloc_one = true := by kernel_rfl
theorem k_alloc_first : chkF Tryz.prog Tryz.f21 c_alloc_first = true := by kernel_rfl
theorem k_alloc_Inode_1 : chkF Tryz.prog Tryz.f22 c_alloc_Inode_1 = true := by kernel_rfl
theorem k_flotsamref09_Taken : chkF Tryz.prog Tryz.f23 c_flotsamref09_Taken = true := by kernel_rfl
theorem k_alloc_Slot_1 : chkF Tryz.prog Tryz.f24 c_alloc_Slot_1 = true := by kernel_rfl
theorem k_look_Entry : chkF Tryz.prog Tryz.f25 c_look_Entry = true := by kernel_rfl
theorem k_flotsamref09_Entry : chkF Tryz.prog Tryz.f26 c_flotsamref09_Entry = true := by kernel_rfl
theorem k_alloc_blocks : chkF Tryz.prog Tryz.f27 c_alloc_blocks = true := by kernel_rfl
theorem k_alloc_Blocks_1 : chkF Tryz.prog Tryz.f28 c_alloc_Blocks_1 = true := by kernel_rfl
theorem k_flotsamref10_Used : chkF Tryz.prog Tryz.f29 c_flotsamref10_Used = true := by kernel_rfl
theorem k_alloc_Count_1 : chkF Tryz.prog Tryz.f30 c_alloc_Count_1 = true := by kernel_rfl
theorem k_slices_Clone_bool_bool : chkF Tryz.prog Tryz.f31 c_slices_Clone_bool_bool = true := by kernel_rfl
theorem k_flotsamref07_Super : chkF Tryz.prog Tryz.f32 c_flotsamref07_Super = true := by kernel_rfl
theorem k_bdisk_New : chkF Tryz.prog Tryz.f33 c_bdisk_New = true := by kernel_rfl
theorem k_slices_Clone_api_Sector_api_Sector : chkF Tryz.prog Tryz.f34 c_slices_Clone_api_Sector_api_Sector = true := by kernel_rfl
theorem k_pbdisk_Disk_none : chkF Tryz.prog Tryz.f35 c_pbdisk_Disk_none = true := by kernel_rfl
theorem k_pbdisk_faults_fails : chkF Tryz.prog Tryz.f36 c_pbdisk_faults_fails = true := by kernel_rfl
theorem k_pbdisk_Disk_has : chkF Tryz.prog Tryz.f37 c_pbdisk_Disk_has = true := by kernel_rfl
theorem k_pbdisk_Disk_note : chkF Tryz.prog Tryz.f38 c_pbdisk_Disk_note = true := by kernel_rfl
theorem k_layout_EntryOf : chkF Tryz.prog Tryz.f39 c_layout_EntryOf = true := by kernel_rfl
theorem k_look_at : chkF Tryz.prog Tryz.f40 c_look_at = true := by kernel_rfl
theorem k_flotsamref07_EntryOf : chkF Tryz.prog Tryz.f41 c_flotsamref07_EntryOf = true := by kernel_rfl
theorem k_flotsamref09_at : chkF Tryz.prog Tryz.f42 c_flotsamref09_at = true := by kernel_rfl
theorem k_look_Inode : chkF Tryz.prog Tryz.f43 c_look_Inode = true := by kernel_rfl
theorem k_flotsamref09_Inode : chkF Tryz.prog Tryz.f44 c_flotsamref09_Inode = true := by kernel_rfl
theorem k_sector_Zero : chkF Tryz.prog Tryz.f45 c_sector_Zero = true := by kernel_rfl
theorem k_sector_Cut : chkF Tryz.prog Tryz.f46 c_sector_Cut = true := by kernel_rfl
theorem k_layout_Entry : chkF Tryz.prog Tryz.f47 c_layout_Entry = true := by kernel_rfl
theorem k_pbdisk_Disk_Read : chkF Tryz.prog Tryz.f48 c_pbdisk_Disk_Read = true := by kernel_rfl
theorem k_flotsamref07_Entry : chkF Tryz.prog Tryz.f49 c_flotsamref07_Entry = true := by kernel_rfl
theorem k_layout_InodeOf : chkF Tryz.prog Tryz.f50 c_layout_InodeOf = true := by kernel_rfl
theorem k_flotsamref07_InodeOf : chkF Tryz.prog Tryz.f51 c_flotsamref07_InodeOf = true := by kernel_rfl
theorem k_sector_fits : chkF Tryz.prog Tryz.f52 c_sector_fits = true := by kernel_rfl
theorem k_bytes_Clone : chkF Tryz.prog Tryz.f53 c_bytes_Clone = true := by kernel_rfl
theorem k_layout_RightEntry : chkF Tryz.prog Tryz.f54 c_layout_RightEntry = true := by kernel_rfl
theorem k_slices_Backward_api_Write_api_Write : chkF Tryz.prog Tryz.f55 c_slices_Backward_api_Write_api_Write = true := by kernel_rfl
theorem k_flotsamref07_RightEntry : chkF Tryz.prog Tryz.f56 c_flotsamref07_RightEntry = true := by kernel_rfl
theorem k_layout_Inode : chkF Tryz.prog Tryz.f57 c_layout_Inode = true := by kernel_rfl
theorem k_flotsamref07_Inode : chkF Tryz.prog Tryz.f58 c_flotsamref07_Inode = true := by kernel_rfl
theorem k_layout_RightEntry_1 : chkF Tryz.prog Tryz.f59 c_layout_RightEntry_1 = true := by kernel_rfl
theorem k_layout_Name : chkF Tryz.prog Tryz.f60 c_layout_Name = true := by kernel_rfl
theorem k_slices_Backward_api_Write_api_Write_1 : chkF Tryz.prog Tryz.f61 c_slices_Backward_api_Write_api_Write_1 = true := by kernel_rfl
theorem k_flotsamref07_Name : chkF Tryz.prog Tryz.f62 c_flotsamref07_Name = true := by kernel_rfl
theorem k_layout_RightInode : chkF Tryz.prog Tryz.f63 c_layout_RightInode = true := by kernel_rfl
theorem k_flotsamref07_RightInode : chkF Tryz.prog Tryz.f64 c_flotsamref07_RightInode = true := by kernel_rfl
theorem k_slices_Clone_int_int : chkF Tryz.prog Tryz.f66 c_slices_Clone_int_int = true := by kernel_rfl
theorem k_layout_need : chkF Tryz.prog Tryz.f67 c_layout_need = true := by kernel_rfl
theorem k_layout_RightInode_1 : chkF Tryz.prog Tryz.f68 c_layout_RightInode_1 = true := by kernel_rfl
theorem k_slices_ContainsFunc_int_int : chkF Tryz.prog Tryz.f69 c_slices_ContainsFunc_int_int = true := by kernel_rfl
theorem k_layout_RightInode_2 : chkF Tryz.prog Tryz.f70 c_layout_RightInode_2 = true := by kernel_rfl
theorem k_flotsamref07_Need : chkF Tryz.prog Tryz.f73 c_flotsamref07_Need = true := by kernel_rfl
theorem k_slices_IndexFunc_int_int : chkF Tryz.prog Tryz.f81 c_slices_IndexFunc_int_int = true := by kernel_rfl
theorem lab_pbdisk_Disk_Read : LabC tbl c_pbdisk_Disk_Read.body := LabC.list (l := [(q_pbdisk_Disk_Read_0, a_pbdisk_Disk_Read_0, y_pbdisk_Disk_Read_0)]) (by kernel_rfl) ⟨u_pbdisk_Disk_Read_0, trivial⟩
set_option maxRecDepth 100000 in
theorem fitsAll : ∀ k af, tbl k = some af → Fit Tryz.prog tbl k af :=
 Tab.cons (p := Fit Tryz.prog tbl) (.plain ⟨_, Tryz.func3, k_flotsamlaw10_AllocTells⟩ (LabC.none rfl)) <|
 Tab.cons (p := Fit Tryz.prog tbl) (.plain ⟨_, Tryz.func4, k_flotsamlaw10_knows⟩ (LabC.none rfl)) <|
 Tab.cons (p := Fit Tryz.prog tbl) (.plain ⟨_, Tryz.func5, k_flotsamlaw09_Disk⟩ (LabC.none rfl)) <|
 Tab.cons (p := Fit Tryz.prog tbl) (.plain ⟨_, Tryz.func6, k_flotsamref09_With⟩ (LabC.none rfl)) <|
 Tab.cons (p := Fit Tryz.prog tbl) (.plain ⟨_, Tryz.func7, k_alloc_Inode⟩ (LabC.none rfl)) <|
 Tab.cons (p := Fit Tryz.prog tbl) (.plain ⟨_, Tryz.func8, k_flotsamref10_Inode⟩ (LabC.none rfl)) <|
 Tab.cons (p := Fit Tryz.prog tbl) (.plain ⟨_, Tryz.func9, k_alloc_Slot⟩ (LabC.none rfl)) <|
 Tab.cons (p := Fit Tryz.prog tbl) (.plain ⟨_, Tryz.func10, k_flotsamref10_Slot⟩ (LabC.none rfl)) <|
 Tab.cons (p := Fit Tryz.prog tbl) (.plain ⟨_, Tryz.func11, k_alloc_Blocks⟩ (LabC.none rfl)) <|
 Tab.cons (p := Fit Tryz.prog tbl) (.plain ⟨_, Tryz.func12, k_flotsamref10_Blocks⟩ (LabC.none rfl)) <|
 Tab.cons (p := Fit Tryz.prog tbl) (.plain ⟨_, Tryz.func13, k_alloc_Count⟩ (LabC.none rfl)) <|
 Tab.cons (p := Fit Tryz.prog tbl) (.plain ⟨_, Tryz.func14, k_flotsamref10_Count⟩ (LabC.none rfl)) <|
 Tab.cons (p := Fit Tryz.prog tbl) (.plain ⟨_, Tryz.func15, k_flotsamlaw04_Ints⟩ (LabC.none rfl)) <|
 Tab.cons (p := Fit Tryz.prog tbl) (.plain ⟨_, Tryz.func16, k_flotsamref07_Empty⟩ (LabC.none rfl)) <|
 Tab.cons (p := Fit Tryz.prog tbl) (.plain ⟨_, Tryz.func17, k_bdisk_From⟩ (LabC.none rfl)) <|
 Tab.cons (p := Fit Tryz.prog tbl) (.plain ⟨_, Tryz.func18, k_pbdisk_Disk_Write⟩ (LabC.none rfl)) <|
 Tab.cons (p := Fit Tryz.prog tbl) (.plain ⟨_, Tryz.func19, k_alloc_inodes⟩ (LabC.none rfl)) <|
 Tab.cons (p := Fit Tryz.prog tbl) (.plain ⟨_, Tryz.func20, k_alloc_one⟩ (LabC.none rfl)) <|
 Tab.cons (p := Fit Tryz.prog tbl) (.plain ⟨_, Tryz.func21, k_alloc_first⟩ (LabC.none rfl)) <|
 Tab.cons (p := Fit Tryz.prog tbl) (.plain ⟨_, Tryz.func22, k_alloc_Inode_1⟩ (LabC.none rfl)) <|
 Tab.cons (p := Fit Tryz.prog tbl) (.plain ⟨_, Tryz.func23, k_flotsamref09_Taken⟩ (LabC.none rfl)) <|
 Tab.cons (p := Fit Tryz.prog tbl) (.plain ⟨_, Tryz.func24, k_alloc_Slot_1⟩ (LabC.none rfl)) <|
 Tab.cons (p := Fit Tryz.prog tbl) (.plain ⟨_, Tryz.func25, k_look_Entry⟩ (LabC.none rfl)) <|
 Tab.cons (p := Fit Tryz.prog tbl) (.plain ⟨_, Tryz.func26, k_flotsamref09_Entry⟩ (LabC.none rfl)) <|
 Tab.cons (p := Fit Tryz.prog tbl) (.plain ⟨_, Tryz.func27, k_alloc_blocks⟩ (LabC.none rfl)) <|
 Tab.cons (p := Fit Tryz.prog tbl) (.plain ⟨_, Tryz.func28, k_alloc_Blocks_1⟩ (LabC.none rfl)) <|
 Tab.cons (p := Fit Tryz.prog tbl) (.plain ⟨_, Tryz.func29, k_flotsamref10_Used⟩ (LabC.none rfl)) <|
 Tab.cons (p := Fit Tryz.prog tbl) (.plain ⟨_, Tryz.func30, k_alloc_Count_1⟩ (LabC.none rfl)) <|
 Tab.cons (p := Fit Tryz.prog tbl) (.plain ⟨_, Tryz.func31, k_slices_Clone_bool_bool⟩ (LabC.none rfl)) <|
 Tab.cons (p := Fit Tryz.prog tbl) (.plain ⟨_, Tryz.func32, k_flotsamref07_Super⟩ (LabC.none rfl)) <|
 Tab.cons (p := Fit Tryz.prog tbl) (.plain ⟨_, Tryz.func33, k_bdisk_New⟩ (LabC.none rfl)) <|
 Tab.cons (p := Fit Tryz.prog tbl) (.plain ⟨_, Tryz.func34, k_slices_Clone_api_Sector_api_Sector⟩ (LabC.none rfl)) <|
 Tab.cons (p := Fit Tryz.prog tbl) (.plain ⟨_, Tryz.func35, k_pbdisk_Disk_none⟩ (LabC.none rfl)) <|
 Tab.cons (p := Fit Tryz.prog tbl) (.plain ⟨_, Tryz.func36, k_pbdisk_faults_fails⟩ (LabC.none rfl)) <|
 Tab.cons (p := Fit Tryz.prog tbl) (.plain ⟨_, Tryz.func37, k_pbdisk_Disk_has⟩ (LabC.none rfl)) <|
 Tab.cons (p := Fit Tryz.prog tbl) (.plain ⟨_, Tryz.func38, k_pbdisk_Disk_note⟩ (LabC.none rfl)) <|
 Tab.cons (p := Fit Tryz.prog tbl) (.plain ⟨_, Tryz.func39, k_layout_EntryOf⟩ (LabC.none rfl)) <|
 Tab.cons (p := Fit Tryz.prog tbl) (.plain ⟨_, Tryz.func40, k_look_at⟩ (LabC.none rfl)) <|
 Tab.cons (p := Fit Tryz.prog tbl) (.plain ⟨_, Tryz.func41, k_flotsamref07_EntryOf⟩ (LabC.none rfl)) <|
 Tab.cons (p := Fit Tryz.prog tbl) (.plain ⟨_, Tryz.func42, k_flotsamref09_at⟩ (LabC.none rfl)) <|
 Tab.cons (p := Fit Tryz.prog tbl) (.plain ⟨_, Tryz.func43, k_look_Inode⟩ (LabC.none rfl)) <|
 Tab.cons (p := Fit Tryz.prog tbl) (.plain ⟨_, Tryz.func44, k_flotsamref09_Inode⟩ (LabC.none rfl)) <|
 Tab.cons (p := Fit Tryz.prog tbl) (.plain ⟨_, Tryz.func45, k_sector_Zero⟩ (LabC.none rfl)) <|
 Tab.cons (p := Fit Tryz.prog tbl) (.plain ⟨_, Tryz.func46, k_sector_Cut⟩ (LabC.none rfl)) <|
 Tab.cons (p := Fit Tryz.prog tbl) (.plain ⟨_, Tryz.func47, k_layout_Entry⟩ (LabC.none rfl)) <|
 Tab.cons (p := Fit Tryz.prog tbl) (.plain ⟨_, Tryz.func48, k_pbdisk_Disk_Read⟩ lab_pbdisk_Disk_Read) <|
 Tab.cons (p := Fit Tryz.prog tbl) (.plain ⟨_, Tryz.func49, k_flotsamref07_Entry⟩ (LabC.none rfl)) <|
 Tab.cons (p := Fit Tryz.prog tbl) (.plain ⟨_, Tryz.func50, k_layout_InodeOf⟩ (LabC.none rfl)) <|
 Tab.cons (p := Fit Tryz.prog tbl) (.plain ⟨_, Tryz.func51, k_flotsamref07_InodeOf⟩ (LabC.none rfl)) <|
 Tab.cons (p := Fit Tryz.prog tbl) (.plain ⟨_, Tryz.func52, k_sector_fits⟩ (LabC.none rfl)) <|
 Tab.cons (p := Fit Tryz.prog tbl) (.plain ⟨_, Tryz.func53, k_bytes_Clone⟩ (LabC.none rfl)) <|
 Tab.cons (p := Fit Tryz.prog tbl) (.plain ⟨_, Tryz.func54, k_layout_RightEntry⟩ (LabC.none rfl)) <|
 Tab.cons (p := Fit Tryz.prog tbl) (.plain ⟨_, Tryz.func55, k_slices_Backward_api_Write_api_Write⟩ (LabC.none rfl)) <|
 Tab.cons (p := Fit Tryz.prog tbl) (.plain ⟨_, Tryz.func56, k_flotsamref07_RightEntry⟩ (LabC.none rfl)) <|
 Tab.cons (p := Fit Tryz.prog tbl) (.plain ⟨_, Tryz.func57, k_layout_Inode⟩ (LabC.none rfl)) <|
 Tab.cons (p := Fit Tryz.prog tbl) (.plain ⟨_, Tryz.func58, k_flotsamref07_Inode⟩ (LabC.none rfl)) <|
 Tab.cons (p := Fit Tryz.prog tbl) (.plain ⟨_, Tryz.func59, k_layout_RightEntry_1⟩ (LabC.none rfl)) <|
 Tab.cons (p := Fit Tryz.prog tbl) (.plain ⟨_, Tryz.func60, k_layout_Name⟩ (LabC.none rfl)) <|
 Tab.cons (p := Fit Tryz.prog tbl) (.plain ⟨_, Tryz.func61, k_slices_Backward_api_Write_api_Write_1⟩ (LabC.none rfl)) <|
 Tab.cons (p := Fit Tryz.prog tbl) (.plain ⟨_, Tryz.func62, k_flotsamref07_Name⟩ (LabC.none rfl)) <|
 Tab.cons (p := Fit Tryz.prog tbl) (.plain ⟨_, Tryz.func63, k_layout_RightInode⟩ (LabC.none rfl)) <|
 Tab.cons (p := Fit Tryz.prog tbl) (.plain ⟨_, Tryz.func64, k_flotsamref07_RightInode⟩ (LabC.none rfl)) <|
 Tab.cons (p := Fit Tryz.prog tbl) (.plain ⟨_, Tryz.func66, k_slices_Clone_int_int⟩ (LabC.none rfl)) <|
 Tab.cons (p := Fit Tryz.prog tbl) (.plain ⟨_, Tryz.func67, k_layout_need⟩ (LabC.none rfl)) <|
 Tab.cons (p := Fit Tryz.prog tbl) (.plain ⟨_, Tryz.func68, k_layout_RightInode_1⟩ (LabC.none rfl)) <|
 Tab.cons (p := Fit Tryz.prog tbl) (.plain ⟨_, Tryz.func69, k_slices_ContainsFunc_int_int⟩ (LabC.none rfl)) <|
 Tab.cons (p := Fit Tryz.prog tbl) (.plain ⟨_, Tryz.func70, k_layout_RightInode_2⟩ (LabC.none rfl)) <|
 Tab.cons (p := Fit Tryz.prog tbl) (.plain ⟨_, Tryz.func73, k_flotsamref07_Need⟩ (LabC.none rfl)) <|
 Tab.cons (p := Fit Tryz.prog tbl) (.plain ⟨_, Tryz.func81, k_slices_IndexFunc_int_int⟩ (LabC.none rfl)) <|
 Tab.cons (p := Fit Tryz.prog tbl) (.label (Nat.le_of_ble_eq_true rfl) (Nat.le_of_ble_eq_true rfl)) <|
 Tab.nil
theorem fits : ∀ k af, tbl k = some af → k < yBase → (∃ fn, Tryz.prog.funcs[k]? = some fn ∧ chkF Tryz.prog fn af = true) ∧ LabC tbl af.body := fun k af h => (fitsAll k af h).1
theorem fitsW : ∀ k af, tbl (wTab k) = some af → (∃ fn, Tryz.prog.funcs[k]? = some fn ∧ chkW Tryz.prog fn af = true) ∧ LabC tbl af.body := fun k af h => (fitsAll _ af h).2 k rfl
end Go.Proofs.YtfmbdcpdoffdeabGreatDoor
