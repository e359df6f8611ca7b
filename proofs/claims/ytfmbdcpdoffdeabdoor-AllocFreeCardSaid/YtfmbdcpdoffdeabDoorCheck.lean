/-
 The abstract code of each function fits the loaded function; printed by a program (gen.py).
-/
import Derived.Test.YtfmbdcpdoffdeabDoorCode
import Derived.Test.YtfmbdcpdoffdeabDoorRun
import Derived.Test.YtfmbdcpdoffdeabDoorChecked
namespace Go.Proofs.YtfmbdcpdoffdeabDoor
open Go.AM
theorem k_flotsamlaw10_AllocFree : chkF Tryd.prog Tryd.f3 c_flotsamlaw10_AllocFree = true := by kernel_rfl
theorem k_flotsamlaw10_knows : chkF Tryd.prog Tryd.f4 c_flotsamlaw10_knows = true := by kernel_rfl
theorem k_flotsamlaw09_Disk : chkF Tryd.prog Tryd.f5 c_flotsamlaw09_Disk = true := by kernel_rfl
theorem k_alloc_Count : chkF Tryd.prog Tryd.f6 c_alloc_Count = true := by kernel_rfl
theorem k_alloc_Inode : chkF Tryd.prog Tryd.f7 c_alloc_Inode = true := by kernel_rfl
theorem k_alloc_Slot : chkF Tryd.prog Tryd.f8 c_alloc_Slot = true := by kernel_rfl
theorem k_alloc_Blocks : chkF Tryd.prog Tryd.f9 c_alloc_Blocks = true := by kernel_rfl
theorem k_look_Taken : chkF Tryd.prog Tryd.f10 c_look_Taken = true := by kernel_rfl
theorem k_look_Entry : chkF Tryd.prog Tryd.f11 c_look_Entry = true := by kernel_rfl
theorem k_flotsamlaw10_owned : chkF Tryd.prog Tryd.f12 c_flotsamlaw10_owned = true := by kernel_rfl
theorem k_flotsamlaw04_Ints : chkF Tryd.prog Tryd.f13 c_flotsamlaw04_Ints = true := by kernel_rfl
theorem k_flotsamref07_Empty : chkF Tryd.prog Tryd.f14 c_flotsamref07_Empty = true := by kernel_rfl
theorem k_bdisk_From : chkF Tryd.prog Tryd.f15 c_bdisk_From = true := by kernel_rfl
theorem k_pbdisk_Disk_Write : chkF Tryd.prog Tryd.f16 c_pbdisk_Disk_Write = true := by kernel_rfl
theorem k_alloc_Count_1 : chkF Tryd.prog Tryd.f17 c_alloc_Count_1 = true := by kernel_rfl
theorem k_alloc_inodes : chkF Tryd.prog Tryd.f18 c_alloc_inodes = true := by kernel_rfl
theorem k_alloc_blocks : chkF Tryd.prog Tryd.f19 c_alloc_blocks = true := by kernel_rfl
theorem k_slices_Clone_bool_bool : chkF Tryd.prog Tryd.f20 c_slices_Clone_bool_bool = true := by kernel_rfl
theorem k_alloc_one : chkF Tryd.prog Tryd.f21 c_alloc_one = true := by kernel_rfl
theorem k_alloc_first : chkF Tryd.prog Tryd.f22 c_alloc_first = true := by kernel_rfl
theorem k_alloc_Inode_1 : chkF Tryd.prog Tryd.f23 c_alloc_Inode_1 = true := by kernel_rfl
theorem k_alloc_Slot_1 : chkF Tryd.prog Tryd.f24 c_alloc_Slot_1 = true := by kernel_rfl
theorem k_alloc_Blocks_1 : chkF Tryd.prog Tryd.f25 c_alloc_Blocks_1 = true := by kernel_rfl
theorem k_look_used : chkF Tryd.prog Tryd.f26 c_look_used = true := by kernel_rfl
theorem k_layout_EntryOf : chkF Tryd.prog Tryd.f27 c_layout_EntryOf = true := by kernel_rfl
theorem k_look_at : chkF Tryd.prog Tryd.f28 c_look_at = true := by kernel_rfl
theorem k_look_Inode : chkF Tryd.prog Tryd.f29 c_look_Inode = true := by kernel_rfl
theorem k_flotsamref07_Super : chkF Tryd.prog Tryd.f30 c_flotsamref07_Super = true := by kernel_rfl
theorem k_bdisk_New : chkF Tryd.prog Tryd.f31 c_bdisk_New = true := by kernel_rfl
theorem k_slices_Clone_api_Sector_api_Sector : chkF Tryd.prog Tryd.f32 c_slices_Clone_api_Sector_api_Sector = true := by kernel_rfl
theorem k_pbdisk_Disk_none : chkF Tryd.prog Tryd.f33 c_pbdisk_Disk_none = true := by kernel_rfl
theorem k_pbdisk_faults_fails : chkF Tryd.prog Tryd.f34 c_pbdisk_faults_fails = true := by kernel_rfl
theorem k_pbdisk_Disk_has : chkF Tryd.prog Tryd.f35 c_pbdisk_Disk_has = true := by kernel_rfl
theorem k_pbdisk_Disk_note : chkF Tryd.prog Tryd.f36 c_pbdisk_Disk_note = true := by kernel_rfl
theorem k_look_used_1 : chkF Tryd.prog Tryd.f37 c_look_used_1 = true := by kernel_rfl
theorem k_sector_Zero : chkF Tryd.prog Tryd.f38 c_sector_Zero = true := by kernel_rfl
theorem k_sector_Cut : chkF Tryd.prog Tryd.f39 c_sector_Cut = true := by kernel_rfl
theorem k_layout_Entry : chkF Tryd.prog Tryd.f40 c_layout_Entry = true := by kernel_rfl
theorem k_pbdisk_Disk_Read : chkF Tryd.prog Tryd.f41 c_pbdisk_Disk_Read = true := by kernel_rfl
theorem k_layout_InodeOf : chkF Tryd.prog Tryd.f42 c_layout_InodeOf = true := by kernel_rfl
theorem k_sector_fits : chkF Tryd.prog Tryd.f43 c_sector_fits = true := by kernel_rfl
theorem k_bytes_Clone : chkF Tryd.prog Tryd.f44 c_bytes_Clone = true := by kernel_rfl
theorem k_layout_RightEntry : chkF Tryd.prog Tryd.f45 c_layout_RightEntry = true := by kernel_rfl
theorem k_slices_Backward_api_Write_api_Write : chkF Tryd.prog Tryd.f46 c_slices_Backward_api_Write_api_Write = true := by kernel_rfl
theorem k_layout_Inode : chkF Tryd.prog Tryd.f47 c_layout_Inode = true := by kernel_rfl
theorem k_layout_RightEntry_1 : chkF Tryd.prog Tryd.f48 c_layout_RightEntry_1 = true := by kernel_rfl
theorem k_layout_Name : chkF Tryd.prog Tryd.f49 c_layout_Name = true := by kernel_rfl
theorem k_slices_Backward_api_Write_api_Write_1 : chkF Tryd.prog Tryd.f50 c_slices_Backward_api_Write_api_Write_1 = true := by kernel_rfl
theorem k_layout_RightInode : chkF Tryd.prog Tryd.f51 c_layout_RightInode = true := by kernel_rfl
theorem k_slices_Clone_int_int : chkF Tryd.prog Tryd.f53 c_slices_Clone_int_int = true := by kernel_rfl
theorem k_layout_need : chkF Tryd.prog Tryd.f54 c_layout_need = true := by kernel_rfl
theorem k_layout_RightInode_1 : chkF Tryd.prog Tryd.f55 c_layout_RightInode_1 = true := by kernel_rfl
theorem k_slices_ContainsFunc_int_int : chkF Tryd.prog Tryd.f56 c_slices_ContainsFunc_int_int = true := by kernel_rfl
theorem k_layout_RightInode_2 : chkF Tryd.prog Tryd.f57 c_layout_RightInode_2 = true := by kernel_rfl
theorem k_slices_IndexFunc_int_int : chkF Tryd.prog Tryd.f67 c_slices_IndexFunc_int_int = true := by kernel_rfl
theorem lab_look_Taken : LabC tbl c_look_Taken.body := LabC.list (l := [(q_look_Taken_0, a_look_Taken_0, y_look_Taken_0)]) (by kernel_rfl) ⟨u_look_Taken_0, trivial⟩
theorem lab_pbdisk_Disk_Read : LabC tbl c_pbdisk_Disk_Read.body := LabC.list (l := [(q_pbdisk_Disk_Read_0, a_pbdisk_Disk_Read_0, y_pbdisk_Disk_Read_0)]) (by kernel_rfl) ⟨u_pbdisk_Disk_Read_0, trivial⟩
set_option maxRecDepth 100000 in
theorem fitsAll : ∀ k af, tbl k = some af → Fit Tryd.prog tbl k af :=
 Tab.cons (p := Fit Tryd.prog tbl) (.plain ⟨_, Tryd.func3, k_flotsamlaw10_AllocFree⟩ (LabC.none rfl)) <|
 Tab.cons (p := Fit Tryd.prog tbl) (.plain ⟨_, Tryd.func4, k_flotsamlaw10_knows⟩ (LabC.none rfl)) <|
 Tab.cons (p := Fit Tryd.prog tbl) (.plain ⟨_, Tryd.func5, k_flotsamlaw09_Disk⟩ (LabC.none rfl)) <|
 Tab.cons (p := Fit Tryd.prog tbl) (.plain ⟨_, Tryd.func6, k_alloc_Count⟩ (LabC.none rfl)) <|
 Tab.cons (p := Fit Tryd.prog tbl) (.plain ⟨_, Tryd.func7, k_alloc_Inode⟩ (LabC.none rfl)) <|
 Tab.cons (p := Fit Tryd.prog tbl) (.plain ⟨_, Tryd.func8, k_alloc_Slot⟩ (LabC.none rfl)) <|
 Tab.cons (p := Fit Tryd.prog tbl) (.plain ⟨_, Tryd.func9, k_alloc_Blocks⟩ (LabC.none rfl)) <|
 Tab.cons (p := Fit Tryd.prog tbl) (.plain ⟨_, Tryd.func10, k_look_Taken⟩ lab_look_Taken) <|
 Tab.cons (p := Fit Tryd.prog tbl) (.plain ⟨_, Tryd.func11, k_look_Entry⟩ (LabC.none rfl)) <|
 Tab.cons (p := Fit Tryd.prog tbl) (.plain ⟨_, Tryd.func12, k_flotsamlaw10_owned⟩ (LabC.none rfl)) <|
 Tab.cons (p := Fit Tryd.prog tbl) (.plain ⟨_, Tryd.func13, k_flotsamlaw04_Ints⟩ (LabC.none rfl)) <|
 Tab.cons (p := Fit Tryd.prog tbl) (.plain ⟨_, Tryd.func14, k_flotsamref07_Empty⟩ (LabC.none rfl)) <|
 Tab.cons (p := Fit Tryd.prog tbl) (.plain ⟨_, Tryd.func15, k_bdisk_From⟩ (LabC.none rfl)) <|
 Tab.cons (p := Fit Tryd.prog tbl) (.plain ⟨_, Tryd.func16, k_pbdisk_Disk_Write⟩ (LabC.none rfl)) <|
 Tab.cons (p := Fit Tryd.prog tbl) (.plain ⟨_, Tryd.func17, k_alloc_Count_1⟩ (LabC.none rfl)) <|
 Tab.cons (p := Fit Tryd.prog tbl) (.plain ⟨_, Tryd.func18, k_alloc_inodes⟩ (LabC.none rfl)) <|
 Tab.cons (p := Fit Tryd.prog tbl) (.plain ⟨_, Tryd.func19, k_alloc_blocks⟩ (LabC.none rfl)) <|
 Tab.cons (p := Fit Tryd.prog tbl) (.plain ⟨_, Tryd.func20, k_slices_Clone_bool_bool⟩ (LabC.none rfl)) <|
 Tab.cons (p := Fit Tryd.prog tbl) (.plain ⟨_, Tryd.func21, k_alloc_one⟩ (LabC.none rfl)) <|
 Tab.cons (p := Fit Tryd.prog tbl) (.plain ⟨_, Tryd.func22, k_alloc_first⟩ (LabC.none rfl)) <|
 Tab.cons (p := Fit Tryd.prog tbl) (.plain ⟨_, Tryd.func23, k_alloc_Inode_1⟩ (LabC.none rfl)) <|
 Tab.cons (p := Fit Tryd.prog tbl) (.plain ⟨_, Tryd.func24, k_alloc_Slot_1⟩ (LabC.none rfl)) <|
 Tab.cons (p := Fit Tryd.prog tbl) (.plain ⟨_, Tryd.func25, k_alloc_Blocks_1⟩ (LabC.none rfl)) <|
 Tab.cons (p := Fit Tryd.prog tbl) (.plain ⟨_, Tryd.func26, k_look_used⟩ (LabC.none rfl)) <|
 Tab.cons (p := Fit Tryd.prog tbl) (.plain ⟨_, Tryd.func27, k_layout_EntryOf⟩ (LabC.none rfl)) <|
 Tab.cons (p := Fit Tryd.prog tbl) (.plain ⟨_, Tryd.func28, k_look_at⟩ (LabC.none rfl)) <|
 Tab.cons (p := Fit Tryd.prog tbl) (.plain ⟨_, Tryd.func29, k_look_Inode⟩ (LabC.none rfl)) <|
 Tab.cons (p := Fit Tryd.prog tbl) (.plain ⟨_, Tryd.func30, k_flotsamref07_Super⟩ (LabC.none rfl)) <|
 Tab.cons (p := Fit Tryd.prog tbl) (.plain ⟨_, Tryd.func31, k_bdisk_New⟩ (LabC.none rfl)) <|
 Tab.cons (p := Fit Tryd.prog tbl) (.plain ⟨_, Tryd.func32, k_slices_Clone_api_Sector_api_Sector⟩ (LabC.none rfl)) <|
 Tab.cons (p := Fit Tryd.prog tbl) (.plain ⟨_, Tryd.func33, k_pbdisk_Disk_none⟩ (LabC.none rfl)) <|
 Tab.cons (p := Fit Tryd.prog tbl) (.plain ⟨_, Tryd.func34, k_pbdisk_faults_fails⟩ (LabC.none rfl)) <|
 Tab.cons (p := Fit Tryd.prog tbl) (.plain ⟨_, Tryd.func35, k_pbdisk_Disk_has⟩ (LabC.none rfl)) <|
 Tab.cons (p := Fit Tryd.prog tbl) (.plain ⟨_, Tryd.func36, k_pbdisk_Disk_note⟩ (LabC.none rfl)) <|
 Tab.cons (p := Fit Tryd.prog tbl) (.plain ⟨_, Tryd.func37, k_look_used_1⟩ (LabC.none rfl)) <|
 Tab.cons (p := Fit Tryd.prog tbl) (.plain ⟨_, Tryd.func38, k_sector_Zero⟩ (LabC.none rfl)) <|
 Tab.cons (p := Fit Tryd.prog tbl) (.plain ⟨_, Tryd.func39, k_sector_Cut⟩ (LabC.none rfl)) <|
 Tab.cons (p := Fit Tryd.prog tbl) (.plain ⟨_, Tryd.func40, k_layout_Entry⟩ (LabC.none rfl)) <|
 Tab.cons (p := Fit Tryd.prog tbl) (.plain ⟨_, Tryd.func41, k_pbdisk_Disk_Read⟩ lab_pbdisk_Disk_Read) <|
 Tab.cons (p := Fit Tryd.prog tbl) (.plain ⟨_, Tryd.func42, k_layout_InodeOf⟩ (LabC.none rfl)) <|
 Tab.cons (p := Fit Tryd.prog tbl) (.plain ⟨_, Tryd.func43, k_sector_fits⟩ (LabC.none rfl)) <|
 Tab.cons (p := Fit Tryd.prog tbl) (.plain ⟨_, Tryd.func44, k_bytes_Clone⟩ (LabC.none rfl)) <|
 Tab.cons (p := Fit Tryd.prog tbl) (.plain ⟨_, Tryd.func45, k_layout_RightEntry⟩ (LabC.none rfl)) <|
 Tab.cons (p := Fit Tryd.prog tbl) (.plain ⟨_, Tryd.func46, k_slices_Backward_api_Write_api_Write⟩ (LabC.none rfl)) <|
 Tab.cons (p := Fit Tryd.prog tbl) (.plain ⟨_, Tryd.func47, k_layout_Inode⟩ (LabC.none rfl)) <|
 Tab.cons (p := Fit Tryd.prog tbl) (.plain ⟨_, Tryd.func48, k_layout_RightEntry_1⟩ (LabC.none rfl)) <|
 Tab.cons (p := Fit Tryd.prog tbl) (.plain ⟨_, Tryd.func49, k_layout_Name⟩ (LabC.none rfl)) <|
 Tab.cons (p := Fit Tryd.prog tbl) (.plain ⟨_, Tryd.func50, k_slices_Backward_api_Write_api_Write_1⟩ (LabC.none rfl)) <|
 Tab.cons (p := Fit Tryd.prog tbl) (.plain ⟨_, Tryd.func51, k_layout_RightInode⟩ (LabC.none rfl)) <|
 Tab.cons (p := Fit Tryd.prog tbl) (.plain ⟨_, Tryd.func53, k_slices_Clone_int_int⟩ (LabC.none rfl)) <|
 Tab.cons (p := Fit Tryd.prog tbl) (.plain ⟨_, Tryd.func54, k_layout_need⟩ (LabC.none rfl)) <|
 Tab.cons (p := Fit Tryd.prog tbl) (.plain ⟨_, Tryd.func55, k_layout_RightInode_1⟩ (LabC.none rfl)) <|
 Tab.cons (p := Fit Tryd.prog tbl) (.plain ⟨_, Tryd.func56, k_slices_ContainsFunc_int_int⟩ (LabC.none rfl)) <|
 Tab.cons (p := Fit Tryd.prog tbl) (.plain ⟨_, Tryd.func57, k_layout_RightInode_2⟩ (LabC.none rfl)) <|
 Tab.cons (p := Fit Tryd.prog tbl) (.plain ⟨_, Tryd.func67, k_slices_IndexFunc_int_int⟩ (LabC.none rfl)) <|
 Tab.cons (p := Fit Tryd.prog tbl) (.label (Nat.le_of_ble_eq_true rfl) (Nat.le_of_ble_eq_true rfl)) <|
 Tab.cons (p := Fit Tryd.prog tbl) (.label (Nat.le_of_ble_eq_true rfl) (Nat.le_of_ble_eq_true rfl)) <|
 Tab.nil
theorem fits : ∀ k af, tbl k = some af → k < yBase → (∃ fn, Tryd.prog.funcs[k]? = some fn ∧ chkF Tryd.prog fn af = true) ∧ LabC tbl af.body := fun k af h => (fitsAll k af h).1
theorem fitsW : ∀ k af, tbl (wTab k) = some af → (∃ fn, Tryd.prog.funcs[k]? = some fn ∧ chkW Tryd.prog fn af = true) ∧ LabC tbl af.body := fun k af h => (fitsAll _ af h).2 k rfl
end Go.Proofs.YtfmbdcpdoffdeabDoor
