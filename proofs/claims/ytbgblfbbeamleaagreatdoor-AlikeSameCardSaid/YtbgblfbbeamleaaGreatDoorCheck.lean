/-
  The abstract code of each function fits the loaded function; printed by a program (gen.py).
-/
import Derived.Test.YtbgblfbbeamleaaGreatDoorCode
import Derived.Test.YtbgblfbbeamleaaGreatDoorRun
import Derived.Test.YtbgblfbbeamleaaGreatDoorChecked
namespace Go.Proofs.YtbgblfbbeamleaaGreatDoor
open Go.AM

theorem k_flotsamlaw41_AlikeSame : chkF Tryz.prog Tryz.f3 c_flotsamlaw41_AlikeSame = true := by kernel_rfl
theorem k_flotsamlaw06_Log : chkF Tryz.prog Tryz.f4 c_flotsamlaw06_Log = true := by kernel_rfl
theorem k_flotsamlaw41_knows : chkF Tryz.prog Tryz.f5 c_flotsamlaw41_knows = true := by kernel_rfl
theorem k_alike_Same : chkF Tryz.prog Tryz.f6 c_alike_Same = true := by kernel_rfl
theorem k_flotsamlaw24_Trace : chkF Tryz.prog Tryz.f7 c_flotsamlaw24_Trace = true := by kernel_rfl
theorem k_flotsamref41_Same : chkF Tryz.prog Tryz.f8 c_flotsamref41_Same = true := by kernel_rfl
theorem k_alike_Classes : chkF Tryz.prog Tryz.f9 c_alike_Classes = true := by kernel_rfl
theorem k_alike_Idle : chkF Tryz.prog Tryz.f10 c_alike_Idle = true := by kernel_rfl
theorem k_flotsamlaw41_num : chkF Tryz.prog Tryz.f12 c_flotsamlaw41_num = true := by kernel_rfl
theorem k_flotsamlaw04_Ints : chkF Tryz.prog Tryz.f13 c_flotsamlaw04_Ints = true := by kernel_rfl
theorem k_alike_Alike : chkF Tryz.prog Tryz.f14 c_alike_Alike = true := by kernel_rfl
theorem k_alike_Same_1 : chkF Tryz.prog Tryz.f15 c_alike_Same_1 = true := by kernel_rfl
theorem k_slices_EqualFunc_api_Event_api_Event_api_Event_api_Event : chkF Tryz.prog Tryz.f16 c_slices_EqualFunc_api_Event_api_Event_api_Event_api_Event = true := by kernel_rfl
theorem k_alike_event : chkF Tryz.prog Tryz.f17 c_alike_event = true := by kernel_rfl
theorem k_flotsamref05_Events : chkF Tryz.prog Tryz.f18 c_flotsamref05_Events = true := by kernel_rfl
theorem k_alike_all : chkF Tryz.prog Tryz.f19 c_alike_all = true := by kernel_rfl
theorem k_alike_once : chkF Tryz.prog Tryz.f20 c_alike_once = true := by kernel_rfl
theorem k_alike_Classes_1 : chkF Tryz.prog Tryz.f21 c_alike_Classes_1 = true := by kernel_rfl
theorem k_slices_IndexFunc_mutants_Mutant_mutants_Mutant : chkF Tryz.prog Tryz.f22 c_slices_IndexFunc_mutants_Mutant_mutants_Mutant = true := by kernel_rfl
theorem k_alike_Classes_2 : chkF Tryz.prog Tryz.f23 c_alike_Classes_2 = true := by kernel_rfl
theorem k_tree_Same : chkF Tryz.prog Tryz.f24 c_tree_Same = true := by kernel_rfl
theorem k_alike_rest : chkF Tryz.prog Tryz.f25 c_alike_rest = true := by kernel_rfl
theorem k_bdisk_From : chkF Tryz.prog Tryz.f26 c_bdisk_From = true := by kernel_rfl
theorem k_layout_Empty : chkF Tryz.prog Tryz.f27 c_layout_Empty = true := by kernel_rfl
theorem k_sfs_Mount : chkF Tryz.prog Tryz.f28 c_sfs_Mount = true := by kernel_rfl
theorem k_pbdisk_Disk_Log : chkF Tryz.prog Tryz.f31 c_pbdisk_Disk_Log = true := by kernel_rfl
theorem k_bound_Check : chkF Tryz.prog Tryz.f32 c_bound_Check = true := by kernel_rfl
theorem k_slices_Equal_api_Tag_api_Tag : chkF Tryz.prog Tryz.f33 c_slices_Equal_api_Tag_api_Tag = true := by kernel_rfl
theorem k_flotsamref05_Tags : chkF Tryz.prog Tryz.f34 c_flotsamref05_Tags = true := by kernel_rfl
theorem k_campaign_Right : chkF Tryz.prog Tryz.f35 c_campaign_Right = true := by kernel_rfl
theorem k_mutants_All : chkF Tryz.prog Tryz.f36 c_mutants_All = true := by kernel_rfl
theorem k_alike_once_1 : chkF Tryz.prog Tryz.f37 c_alike_once_1 = true := by kernel_rfl
theorem k_tree_Same_1 : chkF Tryz.prog Tryz.f38 c_tree_Same_1 = true := by kernel_rfl
theorem k_tree_lists_api_Stmt : chkF Tryz.prog Tryz.f39 c_tree_lists_api_Stmt = true := by kernel_rfl
theorem k_tree_statements : chkF Tryz.prog Tryz.f40 c_tree_statements = true := by kernel_rfl
theorem k_tree_Same_2 : chkF Tryz.prog Tryz.f41 c_tree_Same_2 = true := by kernel_rfl
theorem k_tree_expressions : chkF Tryz.prog Tryz.f42 c_tree_expressions = true := by kernel_rfl
theorem k_tree_lists_api_Proc : chkF Tryz.prog Tryz.f43 c_tree_lists_api_Proc = true := by kernel_rfl
theorem k_tree_lists_api_Oracle : chkF Tryz.prog Tryz.f44 c_tree_lists_api_Oracle = true := by kernel_rfl
theorem k_bdisk_New : chkF Tryz.prog Tryz.f45 c_bdisk_New = true := by kernel_rfl
theorem k_slices_Clone_api_Sector_api_Sector : chkF Tryz.prog Tryz.f46 c_slices_Clone_api_Sector_api_Sector = true := by kernel_rfl
theorem k_layout_Inode : chkF Tryz.prog Tryz.f48 c_layout_Inode = true := by kernel_rfl
theorem k_pbdisk_Disk_Safe : chkF Tryz.prog Tryz.f49 c_pbdisk_Disk_Safe = true := by kernel_rfl
theorem k_look_Mounted : chkF Tryz.prog Tryz.f50 c_look_Mounted = true := by kernel_rfl
theorem k_pbdisk_Disk_none : chkF Tryz.prog Tryz.f51 c_pbdisk_Disk_none = true := by kernel_rfl
theorem k_psfs_FS_Disk : chkF Tryz.prog Tryz.f52 c_psfs_FS_Disk = true := by kernel_rfl
theorem k_pinterp_machine_block : chkF Tryz.prog Tryz.f54 c_pinterp_machine_block = true := by kernel_rfl
theorem k_tree_Count : chkF Tryz.prog Tryz.f55 c_tree_Count = true := by kernel_rfl
theorem k_slices_Clone_api_Event_api_Event : chkF Tryz.prog Tryz.f56 c_slices_Clone_api_Event_api_Event = true := by kernel_rfl
theorem k_slices_Clone_api_Tag_api_Tag : chkF Tryz.prog Tryz.f57 c_slices_Clone_api_Tag_api_Tag = true := by kernel_rfl
theorem k_tree_All : chkF Tryz.prog Tryz.f59 c_tree_All = true := by kernel_rfl
theorem k_bound_Steps : chkF Tryz.prog Tryz.f60 c_bound_Steps = true := by kernel_rfl
theorem k_campaign_Right_1 : chkF Tryz.prog Tryz.f61 c_campaign_Right_1 = true := by kernel_rfl
theorem k_mutants_met_fresh : chkF Tryz.prog Tryz.f62 c_mutants_met_fresh = true := by kernel_rfl
theorem k_site_Sites : chkF Tryz.prog Tryz.f63 c_site_Sites = true := by kernel_rfl
theorem k_mutants_met_of : chkF Tryz.prog Tryz.f64 c_mutants_met_of = true := by kernel_rfl
theorem k_slices_EqualFunc_api_Stmt_api_Stmt_api_Stmt_api_Stmt : chkF Tryz.prog Tryz.f65 c_slices_EqualFunc_api_Stmt_api_Stmt_api_Stmt_api_Stmt = true := by kernel_rfl
theorem k_slices_EqualFunc_api_Proc_api_Proc_api_Proc_api_Proc : chkF Tryz.prog Tryz.f67 c_slices_EqualFunc_api_Proc_api_Proc_api_Proc_api_Proc = true := by kernel_rfl
theorem k_slices_EqualFunc_api_Oracle_api_Oracle_api_Oracle_api_Oracle : chkF Tryz.prog Tryz.f68 c_slices_EqualFunc_api_Oracle_api_Oracle_api_Oracle_api_Oracle = true := by kernel_rfl
theorem k_sector_Of : chkF Tryz.prog Tryz.f69 c_sector_Of = true := by kernel_rfl
theorem k_layout_RightInode : chkF Tryz.prog Tryz.f70 c_layout_RightInode = true := by kernel_rfl
theorem k_pbdisk_Disk_Read : chkF Tryz.prog Tryz.f71 c_pbdisk_Disk_Read = true := by kernel_rfl
theorem k_layout_Mounts : chkF Tryz.prog Tryz.f72 c_layout_Mounts = true := by kernel_rfl
theorem k_psfs_FS_none : chkF Tryz.prog Tryz.f73 c_psfs_FS_none = true := by kernel_rfl
theorem k_pinterp_machine_block_1 : chkF Tryz.prog Tryz.f74 c_pinterp_machine_block_1 = true := by kernel_rfl
theorem k_pinterp_machine_stmt : chkF Tryz.prog Tryz.f75 c_pinterp_machine_stmt = true := by kernel_rfl
theorem k_tree_walk : chkF Tryz.prog Tryz.f76 c_tree_walk = true := by kernel_rfl
theorem k_tree_Right : chkF Tryz.prog Tryz.f77 c_tree_Right = true := by kernel_rfl
theorem k_tree_parts : chkF Tryz.prog Tryz.f80 c_tree_parts = true := by kernel_rfl
theorem k_tree_cloned : chkF Tryz.prog Tryz.f81 c_tree_cloned = true := by kernel_rfl
theorem k_bound_fine : chkF Tryz.prog Tryz.f82 c_bound_fine = true := by kernel_rfl
theorem k_bound_known_steps : chkF Tryz.prog Tryz.f83 c_bound_known_steps = true := by kernel_rfl
theorem k_print_Program : chkF Tryz.prog Tryz.f84 c_print_Program = true := by kernel_rfl
theorem k_site_parts : chkF Tryz.prog Tryz.f85 c_site_parts = true := by kernel_rfl
theorem k_site_each : chkF Tryz.prog Tryz.f86 c_site_each = true := by kernel_rfl
theorem k_site_Sites_1 : chkF Tryz.prog Tryz.f87 c_site_Sites_1 = true := by kernel_rfl
theorem k_site_Sites_2 : chkF Tryz.prog Tryz.f88 c_site_Sites_2 = true := by kernel_rfl
theorem k_site_fits : chkF Tryz.prog Tryz.f89 c_site_fits = true := by kernel_rfl
theorem k_sector_Put : chkF Tryz.prog Tryz.f91 c_sector_Put = true := by kernel_rfl
theorem k_pbdisk_Disk_has : chkF Tryz.prog Tryz.f99 c_pbdisk_Disk_has = true := by kernel_rfl
theorem k_slices_Backward_api_Write_api_Write : chkF Tryz.prog Tryz.f100 c_slices_Backward_api_Write_api_Write = true := by kernel_rfl
theorem k_layout_InodeOf : chkF Tryz.prog Tryz.f101 c_layout_InodeOf = true := by kernel_rfl
theorem k_pinterp_machine_take : chkF Tryz.prog Tryz.f102 c_pinterp_machine_take = true := by kernel_rfl
theorem k_pinterp_machine_eval : chkF Tryz.prog Tryz.f103 c_pinterp_machine_eval = true := by kernel_rfl
theorem k_pinterp_machine_note : chkF Tryz.prog Tryz.f108 c_pinterp_machine_note = true := by kernel_rfl
theorem k_pinterp_machine_stmt_1 : chkF Tryz.prog Tryz.f109 c_pinterp_machine_stmt_1 = true := by kernel_rfl
theorem k_pinterp_machine_file : chkF Tryz.prog Tryz.f110 c_pinterp_machine_file = true := by kernel_rfl
theorem k_tree_walk_1 : chkF Tryz.prog Tryz.f111 c_tree_walk_1 = true := by kernel_rfl
theorem k_tree_Right_1 : chkF Tryz.prog Tryz.f112 c_tree_Right_1 = true := by kernel_rfl
theorem k_lex_Name : chkF Tryz.prog Tryz.f113 c_lex_Name = true := by kernel_rfl
theorem k_tree_Right_2 : chkF Tryz.prog Tryz.f114 c_tree_Right_2 = true := by kernel_rfl
theorem k_tree_expr : chkF Tryz.prog Tryz.f115 c_tree_expr = true := by kernel_rfl
theorem k_tree_Right_3 : chkF Tryz.prog Tryz.f116 c_tree_Right_3 = true := by kernel_rfl
theorem k_tree_block : chkF Tryz.prog Tryz.f117 c_tree_block = true := by kernel_rfl
theorem k_slices_ContainsFunc_api_Proc_api_Proc : chkF Tryz.prog Tryz.f118 c_slices_ContainsFunc_api_Proc_api_Proc = true := by kernel_rfl
theorem k_slices_ContainsFunc_api_Oracle_api_Oracle : chkF Tryz.prog Tryz.f119 c_slices_ContainsFunc_api_Oracle_api_Oracle = true := by kernel_rfl
theorem k_slices_ContainsFunc_api_Stmt_api_Stmt : chkF Tryz.prog Tryz.f120 c_slices_ContainsFunc_api_Stmt_api_Stmt = true := by kernel_rfl
theorem k_ptypes_checker_exprs : chkF Tryz.prog Tryz.f121 c_ptypes_checker_exprs = true := by kernel_rfl
theorem k_tree_each_api_Expr : chkF Tryz.prog Tryz.f123 c_tree_each_api_Expr = true := by kernel_rfl
theorem k_tree_clonedExpr : chkF Tryz.prog Tryz.f124 c_tree_clonedExpr = true := by kernel_rfl
theorem k_tree_each_api_Stmt : chkF Tryz.prog Tryz.f125 c_tree_each_api_Stmt = true := by kernel_rfl
theorem k_pprint_printer_add : chkF Tryz.prog Tryz.f126 c_pprint_printer_add = true := by kernel_rfl
theorem k_pprint_printer_block : chkF Tryz.prog Tryz.f127 c_pprint_printer_block = true := by kernel_rfl
theorem k_site_each_1 : chkF Tryz.prog Tryz.f130 c_site_each_1 = true := by kernel_rfl
theorem k_site_each_2 : chkF Tryz.prog Tryz.f131 c_site_each_2 = true := by kernel_rfl
theorem k_site_writes : chkF Tryz.prog Tryz.f132 c_site_writes = true := by kernel_rfl
theorem k_site_torn : chkF Tryz.prog Tryz.f133 c_site_torn = true := by kernel_rfl
theorem k_site_Fits : chkF Tryz.prog Tryz.f134 c_site_Fits = true := by kernel_rfl
theorem k_tree_Clone : chkF Tryz.prog Tryz.f135 c_tree_Clone = true := by kernel_rfl
theorem k_sector_fits : chkF Tryz.prog Tryz.f138 c_sector_fits = true := by kernel_rfl
theorem k_slices_Backward_api_Write_api_Write_1 : chkF Tryz.prog Tryz.f142 c_slices_Backward_api_Write_api_Write_1 = true := by kernel_rfl
theorem k_flush_Barrier : chkF Tryz.prog Tryz.f162 c_flush_Barrier = true := by kernel_rfl
theorem k_slices_ContainsFunc_api_Expr_api_Expr : chkF Tryz.prog Tryz.f169 c_slices_ContainsFunc_api_Expr_api_Expr = true := by kernel_rfl
theorem k_slices_ContainsFunc_api_Stmt_api_Stmt_x : chkF Tryz.prog Tryz.f171 c_slices_ContainsFunc_api_Stmt_api_Stmt_x = true := by kernel_rfl
theorem k_tree_block_1 : chkF Tryz.prog Tryz.f172 c_tree_block_1 = true := by kernel_rfl
theorem k_tree_stmt : chkF Tryz.prog Tryz.f173 c_tree_stmt = true := by kernel_rfl
theorem k_slices_IndexFunc_api_Proc_api_Proc : chkF Tryz.prog Tryz.f174 c_slices_IndexFunc_api_Proc_api_Proc = true := by kernel_rfl
theorem k_slices_IndexFunc_api_Oracle_api_Oracle : chkF Tryz.prog Tryz.f175 c_slices_IndexFunc_api_Oracle_api_Oracle = true := by kernel_rfl
theorem k_slices_IndexFunc_api_Stmt_api_Stmt : chkF Tryz.prog Tryz.f176 c_slices_IndexFunc_api_Stmt_api_Stmt = true := by kernel_rfl
theorem k_pprint_printer_stmt : chkF Tryz.prog Tryz.f182 c_pprint_printer_stmt = true := by kernel_rfl
theorem k_site_lead : chkF Tryz.prog Tryz.f188 c_site_lead = true := by kernel_rfl
theorem k_tree_each_api_Proc : chkF Tryz.prog Tryz.f189 c_tree_each_api_Proc = true := by kernel_rfl
theorem k_tree_Clone_1 : chkF Tryz.prog Tryz.f190 c_tree_Clone_1 = true := by kernel_rfl
theorem k_tree_each_api_Oracle : chkF Tryz.prog Tryz.f191 c_tree_each_api_Oracle = true := by kernel_rfl
theorem k_pbdisk_Disk_Barrier : chkF Tryz.prog Tryz.f238 c_pbdisk_Disk_Barrier = true := by kernel_rfl
theorem k_slices_IndexFunc_api_Expr_api_Expr : chkF Tryz.prog Tryz.f243 c_slices_IndexFunc_api_Expr_api_Expr = true := by kernel_rfl
theorem k_slices_IndexFunc_api_Stmt_api_Stmt_x : chkF Tryz.prog Tryz.f244 c_slices_IndexFunc_api_Stmt_api_Stmt_x = true := by kernel_rfl
theorem k_tree_shape : chkF Tryz.prog Tryz.f245 c_tree_shape = true := by kernel_rfl
theorem k_print_key : chkF Tryz.prog Tryz.f253 c_print_key = true := by kernel_rfl
theorem k_pprint_printer_exprs : chkF Tryz.prog Tryz.f254 c_pprint_printer_exprs = true := by kernel_rfl
theorem k_site_may : chkF Tryz.prog Tryz.f257 c_site_may = true := by kernel_rfl
theorem k_pbdisk_faults_fails : chkF Tryz.prog Tryz.f301 c_pbdisk_faults_fails = true := by kernel_rfl
theorem k_pbdisk_Disk_note : chkF Tryz.prog Tryz.f302 c_pbdisk_Disk_note = true := by kernel_rfl
theorem k_tree_Exprs : chkF Tryz.prog Tryz.f305 c_tree_Exprs = true := by kernel_rfl
theorem k_tree_blocks : chkF Tryz.prog Tryz.f306 c_tree_blocks = true := by kernel_rfl
theorem k_tree_shape_1 : chkF Tryz.prog Tryz.f307 c_tree_shape_1 = true := by kernel_rfl
theorem lab_tree_Count : LabC tbl c_tree_Count.body := LabC.list (l := [(q_tree_Count_0, a_tree_Count_0, y_tree_Count_0)]) (by kernel_rfl) ⟨u_tree_Count_0, trivial⟩
theorem lab_tree_All : LabC tbl c_tree_All.body := LabC.list (l := [(q_tree_All_0, a_tree_All_0, y_tree_All_0)]) (by kernel_rfl) ⟨u_tree_All_0, trivial⟩
theorem lab_pbdisk_Disk_Read : LabC tbl c_pbdisk_Disk_Read.body := LabC.list (l := [(q_pbdisk_Disk_Read_0, a_pbdisk_Disk_Read_0, y_pbdisk_Disk_Read_0)]) (by kernel_rfl) ⟨u_pbdisk_Disk_Read_0, trivial⟩
theorem lab_tree_walk_1 : LabC tbl c_tree_walk_1.body := LabC.list (l := [(q_tree_walk_1_0, a_tree_walk_1_0, y_tree_walk_1_0)]) (by kernel_rfl) ⟨u_tree_walk_1_0, trivial⟩
theorem kw_trace_Of : chkW Tryz.prog Tryz.f11 c_trace_Of_w = true := by kernel_rfl
theorem kw_pbdisk_Disk_Fail : chkW Tryz.prog Tryz.f29 c_pbdisk_Disk_Fail_w = true := by kernel_rfl
theorem kw_interp_Run : chkW Tryz.prog Tryz.f30 c_interp_Run_w = true := by kernel_rfl
theorem kw_interp_learn : chkW Tryz.prog Tryz.f53 c_interp_learn_w = true := by kernel_rfl
theorem kw_types_Check : chkW Tryz.prog Tryz.f58 c_types_Check_w = true := by kernel_rfl
theorem kw_ptypes_checker_block : chkW Tryz.prog Tryz.f79 c_ptypes_checker_block_w = true := by kernel_rfl
theorem kw_tree_cloned : chkW Tryz.prog Tryz.f81 c_tree_cloned_w = true := by kernel_rfl
theorem kw_rewrite_Apply : chkW Tryz.prog Tryz.f90 c_rewrite_Apply_w = true := by kernel_rfl
theorem kw_tree_each_api_Expr : chkW Tryz.prog Tryz.f123 c_tree_each_api_Expr_w = true := by kernel_rfl
theorem kw_tree_clonedExpr : chkW Tryz.prog Tryz.f124 c_tree_clonedExpr_w = true := by kernel_rfl
theorem kw_tree_each_api_Stmt : chkW Tryz.prog Tryz.f125 c_tree_each_api_Stmt_w = true := by kernel_rfl
theorem kw_tree_Clone : chkW Tryz.prog Tryz.f135 c_tree_Clone_w = true := by kernel_rfl
theorem kw_rewrite_along : chkW Tryz.prog Tryz.f136 c_rewrite_along_w = true := by kernel_rfl
theorem kw_rewrite_by : chkW Tryz.prog Tryz.f137 c_rewrite_by_w = true := by kernel_rfl
theorem kw_tree_each_api_Proc : chkW Tryz.prog Tryz.f189 c_tree_each_api_Proc_w = true := by kernel_rfl
theorem kw_tree_Clone_1 : chkW Tryz.prog Tryz.f190 c_tree_Clone_1_w = true := by kernel_rfl
theorem kw_tree_each_api_Oracle : chkW Tryz.prog Tryz.f191 c_tree_each_api_Oracle_w = true := by kernel_rfl
theorem kw_rewrite_by_4 : chkW Tryz.prog Tryz.f198 c_rewrite_by_4_w = true := by kernel_rfl
theorem kw_slices_Delete_api_Stmt_api_Stmt : chkW Tryz.prog Tryz.f199 c_slices_Delete_api_Stmt_api_Stmt_w = true := by kernel_rfl

set_option maxRecDepth 100000 in
theorem fitsAll : ∀ k af, tbl k = some af → Fit Tryz.prog tbl k af :=
  Tab.cons (p := Fit Tryz.prog tbl) (.plain ⟨_, Tryz.func3, k_flotsamlaw41_AlikeSame⟩ (LabC.none rfl)) <|
  Tab.cons (p := Fit Tryz.prog tbl) (.plain ⟨_, Tryz.func4, k_flotsamlaw06_Log⟩ (LabC.none rfl)) <|
  Tab.cons (p := Fit Tryz.prog tbl) (.plain ⟨_, Tryz.func5, k_flotsamlaw41_knows⟩ (LabC.none rfl)) <|
  Tab.cons (p := Fit Tryz.prog tbl) (.plain ⟨_, Tryz.func6, k_alike_Same⟩ (LabC.none rfl)) <|
  Tab.cons (p := Fit Tryz.prog tbl) (.plain ⟨_, Tryz.func7, k_flotsamlaw24_Trace⟩ (LabC.none rfl)) <|
  Tab.cons (p := Fit Tryz.prog tbl) (.plain ⟨_, Tryz.func8, k_flotsamref41_Same⟩ (LabC.none rfl)) <|
  Tab.cons (p := Fit Tryz.prog tbl) (.plain ⟨_, Tryz.func9, k_alike_Classes⟩ (LabC.none rfl)) <|
  Tab.cons (p := Fit Tryz.prog tbl) (.plain ⟨_, Tryz.func10, k_alike_Idle⟩ (LabC.none rfl)) <|
  Tab.cons (p := Fit Tryz.prog tbl) (.plain ⟨_, Tryz.func12, k_flotsamlaw41_num⟩ (LabC.none rfl)) <|
  Tab.cons (p := Fit Tryz.prog tbl) (.plain ⟨_, Tryz.func13, k_flotsamlaw04_Ints⟩ (LabC.none rfl)) <|
  Tab.cons (p := Fit Tryz.prog tbl) (.plain ⟨_, Tryz.func14, k_alike_Alike⟩ (LabC.none rfl)) <|
  Tab.cons (p := Fit Tryz.prog tbl) (.plain ⟨_, Tryz.func15, k_alike_Same_1⟩ (LabC.none rfl)) <|
  Tab.cons (p := Fit Tryz.prog tbl) (.plain ⟨_, Tryz.func16, k_slices_EqualFunc_api_Event_api_Event_api_Event_api_Event⟩ (LabC.none rfl)) <|
  Tab.cons (p := Fit Tryz.prog tbl) (.plain ⟨_, Tryz.func17, k_alike_event⟩ (LabC.none rfl)) <|
  Tab.cons (p := Fit Tryz.prog tbl) (.plain ⟨_, Tryz.func18, k_flotsamref05_Events⟩ (LabC.none rfl)) <|
  Tab.cons (p := Fit Tryz.prog tbl) (.plain ⟨_, Tryz.func19, k_alike_all⟩ (LabC.none rfl)) <|
  Tab.cons (p := Fit Tryz.prog tbl) (.plain ⟨_, Tryz.func20, k_alike_once⟩ (LabC.none rfl)) <|
  Tab.cons (p := Fit Tryz.prog tbl) (.plain ⟨_, Tryz.func21, k_alike_Classes_1⟩ (LabC.none rfl)) <|
  Tab.cons (p := Fit Tryz.prog tbl) (.plain ⟨_, Tryz.func22, k_slices_IndexFunc_mutants_Mutant_mutants_Mutant⟩ (LabC.none rfl)) <|
  Tab.cons (p := Fit Tryz.prog tbl) (.plain ⟨_, Tryz.func23, k_alike_Classes_2⟩ (LabC.none rfl)) <|
  Tab.cons (p := Fit Tryz.prog tbl) (.plain ⟨_, Tryz.func24, k_tree_Same⟩ (LabC.none rfl)) <|
  Tab.cons (p := Fit Tryz.prog tbl) (.plain ⟨_, Tryz.func25, k_alike_rest⟩ (LabC.none rfl)) <|
  Tab.cons (p := Fit Tryz.prog tbl) (.plain ⟨_, Tryz.func26, k_bdisk_From⟩ (LabC.none rfl)) <|
  Tab.cons (p := Fit Tryz.prog tbl) (.plain ⟨_, Tryz.func27, k_layout_Empty⟩ (LabC.none rfl)) <|
  Tab.cons (p := Fit Tryz.prog tbl) (.plain ⟨_, Tryz.func28, k_sfs_Mount⟩ (LabC.none rfl)) <|
  Tab.cons (p := Fit Tryz.prog tbl) (.plain ⟨_, Tryz.func31, k_pbdisk_Disk_Log⟩ (LabC.none rfl)) <|
  Tab.cons (p := Fit Tryz.prog tbl) (.plain ⟨_, Tryz.func32, k_bound_Check⟩ (LabC.none rfl)) <|
  Tab.cons (p := Fit Tryz.prog tbl) (.plain ⟨_, Tryz.func33, k_slices_Equal_api_Tag_api_Tag⟩ (LabC.none rfl)) <|
  Tab.cons (p := Fit Tryz.prog tbl) (.plain ⟨_, Tryz.func34, k_flotsamref05_Tags⟩ (LabC.none rfl)) <|
  Tab.cons (p := Fit Tryz.prog tbl) (.plain ⟨_, Tryz.func35, k_campaign_Right⟩ (LabC.none rfl)) <|
  Tab.cons (p := Fit Tryz.prog tbl) (.plain ⟨_, Tryz.func36, k_mutants_All⟩ (LabC.none rfl)) <|
  Tab.cons (p := Fit Tryz.prog tbl) (.plain ⟨_, Tryz.func37, k_alike_once_1⟩ (LabC.none rfl)) <|
  Tab.cons (p := Fit Tryz.prog tbl) (.plain ⟨_, Tryz.func38, k_tree_Same_1⟩ (LabC.none rfl)) <|
  Tab.cons (p := Fit Tryz.prog tbl) (.plain ⟨_, Tryz.func39, k_tree_lists_api_Stmt⟩ (LabC.none rfl)) <|
  Tab.cons (p := Fit Tryz.prog tbl) (.plain ⟨_, Tryz.func40, k_tree_statements⟩ (LabC.none rfl)) <|
  Tab.cons (p := Fit Tryz.prog tbl) (.plain ⟨_, Tryz.func41, k_tree_Same_2⟩ (LabC.none rfl)) <|
  Tab.cons (p := Fit Tryz.prog tbl) (.plain ⟨_, Tryz.func42, k_tree_expressions⟩ (LabC.none rfl)) <|
  Tab.cons (p := Fit Tryz.prog tbl) (.plain ⟨_, Tryz.func43, k_tree_lists_api_Proc⟩ (LabC.none rfl)) <|
  Tab.cons (p := Fit Tryz.prog tbl) (.plain ⟨_, Tryz.func44, k_tree_lists_api_Oracle⟩ (LabC.none rfl)) <|
  Tab.cons (p := Fit Tryz.prog tbl) (.plain ⟨_, Tryz.func45, k_bdisk_New⟩ (LabC.none rfl)) <|
  Tab.cons (p := Fit Tryz.prog tbl) (.plain ⟨_, Tryz.func46, k_slices_Clone_api_Sector_api_Sector⟩ (LabC.none rfl)) <|
  Tab.cons (p := Fit Tryz.prog tbl) (.plain ⟨_, Tryz.func48, k_layout_Inode⟩ (LabC.none rfl)) <|
  Tab.cons (p := Fit Tryz.prog tbl) (.plain ⟨_, Tryz.func49, k_pbdisk_Disk_Safe⟩ (LabC.none rfl)) <|
  Tab.cons (p := Fit Tryz.prog tbl) (.plain ⟨_, Tryz.func50, k_look_Mounted⟩ (LabC.none rfl)) <|
  Tab.cons (p := Fit Tryz.prog tbl) (.plain ⟨_, Tryz.func51, k_pbdisk_Disk_none⟩ (LabC.none rfl)) <|
  Tab.cons (p := Fit Tryz.prog tbl) (.plain ⟨_, Tryz.func52, k_psfs_FS_Disk⟩ (LabC.none rfl)) <|
  Tab.cons (p := Fit Tryz.prog tbl) (.plain ⟨_, Tryz.func54, k_pinterp_machine_block⟩ (LabC.none rfl)) <|
  Tab.cons (p := Fit Tryz.prog tbl) (.plain ⟨_, Tryz.func55, k_tree_Count⟩ lab_tree_Count) <|
  Tab.cons (p := Fit Tryz.prog tbl) (.plain ⟨_, Tryz.func56, k_slices_Clone_api_Event_api_Event⟩ (LabC.none rfl)) <|
  Tab.cons (p := Fit Tryz.prog tbl) (.plain ⟨_, Tryz.func57, k_slices_Clone_api_Tag_api_Tag⟩ (LabC.none rfl)) <|
  Tab.cons (p := Fit Tryz.prog tbl) (.plain ⟨_, Tryz.func59, k_tree_All⟩ lab_tree_All) <|
  Tab.cons (p := Fit Tryz.prog tbl) (.plain ⟨_, Tryz.func60, k_bound_Steps⟩ (LabC.none rfl)) <|
  Tab.cons (p := Fit Tryz.prog tbl) (.plain ⟨_, Tryz.func61, k_campaign_Right_1⟩ (LabC.none rfl)) <|
  Tab.cons (p := Fit Tryz.prog tbl) (.plain ⟨_, Tryz.func62, k_mutants_met_fresh⟩ (LabC.none rfl)) <|
  Tab.cons (p := Fit Tryz.prog tbl) (.plain ⟨_, Tryz.func63, k_site_Sites⟩ (LabC.none rfl)) <|
  Tab.cons (p := Fit Tryz.prog tbl) (.plain ⟨_, Tryz.func64, k_mutants_met_of⟩ (LabC.none rfl)) <|
  Tab.cons (p := Fit Tryz.prog tbl) (.plain ⟨_, Tryz.func65, k_slices_EqualFunc_api_Stmt_api_Stmt_api_Stmt_api_Stmt⟩ (LabC.none rfl)) <|
  Tab.cons (p := Fit Tryz.prog tbl) (.plain ⟨_, Tryz.func67, k_slices_EqualFunc_api_Proc_api_Proc_api_Proc_api_Proc⟩ (LabC.none rfl)) <|
  Tab.cons (p := Fit Tryz.prog tbl) (.plain ⟨_, Tryz.func68, k_slices_EqualFunc_api_Oracle_api_Oracle_api_Oracle_api_Oracle⟩ (LabC.none rfl)) <|
  Tab.cons (p := Fit Tryz.prog tbl) (.plain ⟨_, Tryz.func69, k_sector_Of⟩ (LabC.none rfl)) <|
  Tab.cons (p := Fit Tryz.prog tbl) (.plain ⟨_, Tryz.func70, k_layout_RightInode⟩ (LabC.none rfl)) <|
  Tab.cons (p := Fit Tryz.prog tbl) (.plain ⟨_, Tryz.func71, k_pbdisk_Disk_Read⟩ lab_pbdisk_Disk_Read) <|
  Tab.cons (p := Fit Tryz.prog tbl) (.plain ⟨_, Tryz.func72, k_layout_Mounts⟩ (LabC.none rfl)) <|
  Tab.cons (p := Fit Tryz.prog tbl) (.plain ⟨_, Tryz.func73, k_psfs_FS_none⟩ (LabC.none rfl)) <|
  Tab.cons (p := Fit Tryz.prog tbl) (.plain ⟨_, Tryz.func74, k_pinterp_machine_block_1⟩ (LabC.none rfl)) <|
  Tab.cons (p := Fit Tryz.prog tbl) (.plain ⟨_, Tryz.func75, k_pinterp_machine_stmt⟩ (LabC.none rfl)) <|
  Tab.cons (p := Fit Tryz.prog tbl) (.plain ⟨_, Tryz.func76, k_tree_walk⟩ (LabC.none rfl)) <|
  Tab.cons (p := Fit Tryz.prog tbl) (.plain ⟨_, Tryz.func77, k_tree_Right⟩ (LabC.none rfl)) <|
  Tab.cons (p := Fit Tryz.prog tbl) (.plain ⟨_, Tryz.func80, k_tree_parts⟩ (LabC.none rfl)) <|
  Tab.cons (p := Fit Tryz.prog tbl) (.plain ⟨_, Tryz.func81, k_tree_cloned⟩ (LabC.none rfl)) <|
  Tab.cons (p := Fit Tryz.prog tbl) (.plain ⟨_, Tryz.func82, k_bound_fine⟩ (LabC.none rfl)) <|
  Tab.cons (p := Fit Tryz.prog tbl) (.plain ⟨_, Tryz.func83, k_bound_known_steps⟩ (LabC.none rfl)) <|
  Tab.cons (p := Fit Tryz.prog tbl) (.plain ⟨_, Tryz.func84, k_print_Program⟩ (LabC.none rfl)) <|
  Tab.cons (p := Fit Tryz.prog tbl) (.plain ⟨_, Tryz.func85, k_site_parts⟩ (LabC.none rfl)) <|
  Tab.cons (p := Fit Tryz.prog tbl) (.plain ⟨_, Tryz.func86, k_site_each⟩ (LabC.none rfl)) <|
  Tab.cons (p := Fit Tryz.prog tbl) (.plain ⟨_, Tryz.func87, k_site_Sites_1⟩ (LabC.none rfl)) <|
  Tab.cons (p := Fit Tryz.prog tbl) (.plain ⟨_, Tryz.func88, k_site_Sites_2⟩ (LabC.none rfl)) <|
  Tab.cons (p := Fit Tryz.prog tbl) (.plain ⟨_, Tryz.func89, k_site_fits⟩ (LabC.none rfl)) <|
  Tab.cons (p := Fit Tryz.prog tbl) (.plain ⟨_, Tryz.func91, k_sector_Put⟩ (LabC.none rfl)) <|
  Tab.cons (p := Fit Tryz.prog tbl) (.plain ⟨_, Tryz.func99, k_pbdisk_Disk_has⟩ (LabC.none rfl)) <|
  Tab.cons (p := Fit Tryz.prog tbl) (.plain ⟨_, Tryz.func100, k_slices_Backward_api_Write_api_Write⟩ (LabC.none rfl)) <|
  Tab.cons (p := Fit Tryz.prog tbl) (.plain ⟨_, Tryz.func101, k_layout_InodeOf⟩ (LabC.none rfl)) <|
  Tab.cons (p := Fit Tryz.prog tbl) (.plain ⟨_, Tryz.func102, k_pinterp_machine_take⟩ (LabC.none rfl)) <|
  Tab.cons (p := Fit Tryz.prog tbl) (.plain ⟨_, Tryz.func103, k_pinterp_machine_eval⟩ (LabC.none rfl)) <|
  Tab.cons (p := Fit Tryz.prog tbl) (.plain ⟨_, Tryz.func108, k_pinterp_machine_note⟩ (LabC.none rfl)) <|
  Tab.cons (p := Fit Tryz.prog tbl) (.plain ⟨_, Tryz.func109, k_pinterp_machine_stmt_1⟩ (LabC.none rfl)) <|
  Tab.cons (p := Fit Tryz.prog tbl) (.plain ⟨_, Tryz.func110, k_pinterp_machine_file⟩ (LabC.none rfl)) <|
  Tab.cons (p := Fit Tryz.prog tbl) (.plain ⟨_, Tryz.func111, k_tree_walk_1⟩ lab_tree_walk_1) <|
  Tab.cons (p := Fit Tryz.prog tbl) (.plain ⟨_, Tryz.func112, k_tree_Right_1⟩ (LabC.none rfl)) <|
  Tab.cons (p := Fit Tryz.prog tbl) (.plain ⟨_, Tryz.func113, k_lex_Name⟩ (LabC.none rfl)) <|
  Tab.cons (p := Fit Tryz.prog tbl) (.plain ⟨_, Tryz.func114, k_tree_Right_2⟩ (LabC.none rfl)) <|
  Tab.cons (p := Fit Tryz.prog tbl) (.plain ⟨_, Tryz.func115, k_tree_expr⟩ (LabC.none rfl)) <|
  Tab.cons (p := Fit Tryz.prog tbl) (.plain ⟨_, Tryz.func116, k_tree_Right_3⟩ (LabC.none rfl)) <|
  Tab.cons (p := Fit Tryz.prog tbl) (.plain ⟨_, Tryz.func117, k_tree_block⟩ (LabC.none rfl)) <|
  Tab.cons (p := Fit Tryz.prog tbl) (.plain ⟨_, Tryz.func118, k_slices_ContainsFunc_api_Proc_api_Proc⟩ (LabC.none rfl)) <|
  Tab.cons (p := Fit Tryz.prog tbl) (.plain ⟨_, Tryz.func119, k_slices_ContainsFunc_api_Oracle_api_Oracle⟩ (LabC.none rfl)) <|
  Tab.cons (p := Fit Tryz.prog tbl) (.plain ⟨_, Tryz.func120, k_slices_ContainsFunc_api_Stmt_api_Stmt⟩ (LabC.none rfl)) <|
  Tab.cons (p := Fit Tryz.prog tbl) (.plain ⟨_, Tryz.func121, k_ptypes_checker_exprs⟩ (LabC.none rfl)) <|
  Tab.cons (p := Fit Tryz.prog tbl) (.plain ⟨_, Tryz.func123, k_tree_each_api_Expr⟩ (LabC.none rfl)) <|
  Tab.cons (p := Fit Tryz.prog tbl) (.plain ⟨_, Tryz.func124, k_tree_clonedExpr⟩ (LabC.none rfl)) <|
  Tab.cons (p := Fit Tryz.prog tbl) (.plain ⟨_, Tryz.func125, k_tree_each_api_Stmt⟩ (LabC.none rfl)) <|
  Tab.cons (p := Fit Tryz.prog tbl) (.plain ⟨_, Tryz.func126, k_pprint_printer_add⟩ (LabC.none rfl)) <|
  Tab.cons (p := Fit Tryz.prog tbl) (.plain ⟨_, Tryz.func127, k_pprint_printer_block⟩ (LabC.none rfl)) <|
  Tab.cons (p := Fit Tryz.prog tbl) (.plain ⟨_, Tryz.func130, k_site_each_1⟩ (LabC.none rfl)) <|
  Tab.cons (p := Fit Tryz.prog tbl) (.plain ⟨_, Tryz.func131, k_site_each_2⟩ (LabC.none rfl)) <|
  Tab.cons (p := Fit Tryz.prog tbl) (.plain ⟨_, Tryz.func132, k_site_writes⟩ (LabC.none rfl)) <|
  Tab.cons (p := Fit Tryz.prog tbl) (.plain ⟨_, Tryz.func133, k_site_torn⟩ (LabC.none rfl)) <|
  Tab.cons (p := Fit Tryz.prog tbl) (.plain ⟨_, Tryz.func134, k_site_Fits⟩ (LabC.none rfl)) <|
  Tab.cons (p := Fit Tryz.prog tbl) (.plain ⟨_, Tryz.func135, k_tree_Clone⟩ (LabC.none rfl)) <|
  Tab.cons (p := Fit Tryz.prog tbl) (.plain ⟨_, Tryz.func138, k_sector_fits⟩ (LabC.none rfl)) <|
  Tab.cons (p := Fit Tryz.prog tbl) (.plain ⟨_, Tryz.func142, k_slices_Backward_api_Write_api_Write_1⟩ (LabC.none rfl)) <|
  Tab.cons (p := Fit Tryz.prog tbl) (.plain ⟨_, Tryz.func162, k_flush_Barrier⟩ (LabC.none rfl)) <|
  Tab.cons (p := Fit Tryz.prog tbl) (.plain ⟨_, Tryz.func169, k_slices_ContainsFunc_api_Expr_api_Expr⟩ (LabC.none rfl)) <|
  Tab.cons (p := Fit Tryz.prog tbl) (.plain ⟨_, Tryz.func171, k_slices_ContainsFunc_api_Stmt_api_Stmt_x⟩ (LabC.none rfl)) <|
  Tab.cons (p := Fit Tryz.prog tbl) (.plain ⟨_, Tryz.func172, k_tree_block_1⟩ (LabC.none rfl)) <|
  Tab.cons (p := Fit Tryz.prog tbl) (.plain ⟨_, Tryz.func173, k_tree_stmt⟩ (LabC.none rfl)) <|
  Tab.cons (p := Fit Tryz.prog tbl) (.plain ⟨_, Tryz.func174, k_slices_IndexFunc_api_Proc_api_Proc⟩ (LabC.none rfl)) <|
  Tab.cons (p := Fit Tryz.prog tbl) (.plain ⟨_, Tryz.func175, k_slices_IndexFunc_api_Oracle_api_Oracle⟩ (LabC.none rfl)) <|
  Tab.cons (p := Fit Tryz.prog tbl) (.plain ⟨_, Tryz.func176, k_slices_IndexFunc_api_Stmt_api_Stmt⟩ (LabC.none rfl)) <|
  Tab.cons (p := Fit Tryz.prog tbl) (.plain ⟨_, Tryz.func182, k_pprint_printer_stmt⟩ (LabC.none rfl)) <|
  Tab.cons (p := Fit Tryz.prog tbl) (.plain ⟨_, Tryz.func188, k_site_lead⟩ (LabC.none rfl)) <|
  Tab.cons (p := Fit Tryz.prog tbl) (.plain ⟨_, Tryz.func189, k_tree_each_api_Proc⟩ (LabC.none rfl)) <|
  Tab.cons (p := Fit Tryz.prog tbl) (.plain ⟨_, Tryz.func190, k_tree_Clone_1⟩ (LabC.none rfl)) <|
  Tab.cons (p := Fit Tryz.prog tbl) (.plain ⟨_, Tryz.func191, k_tree_each_api_Oracle⟩ (LabC.none rfl)) <|
  Tab.cons (p := Fit Tryz.prog tbl) (.plain ⟨_, Tryz.func238, k_pbdisk_Disk_Barrier⟩ (LabC.none rfl)) <|
  Tab.cons (p := Fit Tryz.prog tbl) (.plain ⟨_, Tryz.func243, k_slices_IndexFunc_api_Expr_api_Expr⟩ (LabC.none rfl)) <|
  Tab.cons (p := Fit Tryz.prog tbl) (.plain ⟨_, Tryz.func244, k_slices_IndexFunc_api_Stmt_api_Stmt_x⟩ (LabC.none rfl)) <|
  Tab.cons (p := Fit Tryz.prog tbl) (.plain ⟨_, Tryz.func245, k_tree_shape⟩ (LabC.none rfl)) <|
  Tab.cons (p := Fit Tryz.prog tbl) (.plain ⟨_, Tryz.func253, k_print_key⟩ (LabC.none rfl)) <|
  Tab.cons (p := Fit Tryz.prog tbl) (.plain ⟨_, Tryz.func254, k_pprint_printer_exprs⟩ (LabC.none rfl)) <|
  Tab.cons (p := Fit Tryz.prog tbl) (.plain ⟨_, Tryz.func257, k_site_may⟩ (LabC.none rfl)) <|
  Tab.cons (p := Fit Tryz.prog tbl) (.plain ⟨_, Tryz.func301, k_pbdisk_faults_fails⟩ (LabC.none rfl)) <|
  Tab.cons (p := Fit Tryz.prog tbl) (.plain ⟨_, Tryz.func302, k_pbdisk_Disk_note⟩ (LabC.none rfl)) <|
  Tab.cons (p := Fit Tryz.prog tbl) (.plain ⟨_, Tryz.func305, k_tree_Exprs⟩ (LabC.none rfl)) <|
  Tab.cons (p := Fit Tryz.prog tbl) (.plain ⟨_, Tryz.func306, k_tree_blocks⟩ (LabC.none rfl)) <|
  Tab.cons (p := Fit Tryz.prog tbl) (.plain ⟨_, Tryz.func307, k_tree_shape_1⟩ (LabC.none rfl)) <|
  Tab.cons (p := Fit Tryz.prog tbl) (.wide (k := 11) ⟨_, Tryz.func11, kw_trace_Of⟩ (LabC.none rfl)) <|
  Tab.cons (p := Fit Tryz.prog tbl) (.wide (k := 29) ⟨_, Tryz.func29, kw_pbdisk_Disk_Fail⟩ (LabC.none rfl)) <|
  Tab.cons (p := Fit Tryz.prog tbl) (.wide (k := 30) ⟨_, Tryz.func30, kw_interp_Run⟩ (LabC.none rfl)) <|
  Tab.cons (p := Fit Tryz.prog tbl) (.wide (k := 53) ⟨_, Tryz.func53, kw_interp_learn⟩ (LabC.none rfl)) <|
  Tab.cons (p := Fit Tryz.prog tbl) (.wide (k := 58) ⟨_, Tryz.func58, kw_types_Check⟩ (LabC.none rfl)) <|
  Tab.cons (p := Fit Tryz.prog tbl) (.wide (k := 79) ⟨_, Tryz.func79, kw_ptypes_checker_block⟩ (LabC.none rfl)) <|
  Tab.cons (p := Fit Tryz.prog tbl) (.wide (k := 81) ⟨_, Tryz.func81, kw_tree_cloned⟩ (LabC.none rfl)) <|
  Tab.cons (p := Fit Tryz.prog tbl) (.wide (k := 90) ⟨_, Tryz.func90, kw_rewrite_Apply⟩ (LabC.none rfl)) <|
  Tab.cons (p := Fit Tryz.prog tbl) (.wide (k := 123) ⟨_, Tryz.func123, kw_tree_each_api_Expr⟩ (LabC.none rfl)) <|
  Tab.cons (p := Fit Tryz.prog tbl) (.wide (k := 124) ⟨_, Tryz.func124, kw_tree_clonedExpr⟩ (LabC.none rfl)) <|
  Tab.cons (p := Fit Tryz.prog tbl) (.wide (k := 125) ⟨_, Tryz.func125, kw_tree_each_api_Stmt⟩ (LabC.none rfl)) <|
  Tab.cons (p := Fit Tryz.prog tbl) (.wide (k := 135) ⟨_, Tryz.func135, kw_tree_Clone⟩ (LabC.none rfl)) <|
  Tab.cons (p := Fit Tryz.prog tbl) (.wide (k := 136) ⟨_, Tryz.func136, kw_rewrite_along⟩ (LabC.none rfl)) <|
  Tab.cons (p := Fit Tryz.prog tbl) (.wide (k := 137) ⟨_, Tryz.func137, kw_rewrite_by⟩ (LabC.none rfl)) <|
  Tab.cons (p := Fit Tryz.prog tbl) (.wide (k := 189) ⟨_, Tryz.func189, kw_tree_each_api_Proc⟩ (LabC.none rfl)) <|
  Tab.cons (p := Fit Tryz.prog tbl) (.wide (k := 190) ⟨_, Tryz.func190, kw_tree_Clone_1⟩ (LabC.none rfl)) <|
  Tab.cons (p := Fit Tryz.prog tbl) (.wide (k := 191) ⟨_, Tryz.func191, kw_tree_each_api_Oracle⟩ (LabC.none rfl)) <|
  Tab.cons (p := Fit Tryz.prog tbl) (.wide (k := 198) ⟨_, Tryz.func198, kw_rewrite_by_4⟩ (LabC.none rfl)) <|
  Tab.cons (p := Fit Tryz.prog tbl) (.wide (k := 199) ⟨_, Tryz.func199, kw_slices_Delete_api_Stmt_api_Stmt⟩ (LabC.none rfl)) <|
  Tab.cons (p := Fit Tryz.prog tbl) (.label (Nat.le_of_ble_eq_true rfl) (Nat.le_of_ble_eq_true rfl)) <|
  Tab.cons (p := Fit Tryz.prog tbl) (.label (Nat.le_of_ble_eq_true rfl) (Nat.le_of_ble_eq_true rfl)) <|
  Tab.cons (p := Fit Tryz.prog tbl) (.label (Nat.le_of_ble_eq_true rfl) (Nat.le_of_ble_eq_true rfl)) <|
  Tab.cons (p := Fit Tryz.prog tbl) (.label (Nat.le_of_ble_eq_true rfl) (Nat.le_of_ble_eq_true rfl)) <|
  Tab.nil

theorem fits : ∀ k af, tbl k = some af → k < yBase → (∃ fn, Tryz.prog.funcs[k]? = some fn ∧ chkF Tryz.prog fn af = true) ∧ LabC tbl af.body := fun k af h => (fitsAll k af h).1
theorem fitsW : ∀ k af, tbl (wTab k) = some af → (∃ fn, Tryz.prog.funcs[k]? = some fn ∧ chkW Tryz.prog fn af = true) ∧ LabC tbl af.body := fun k af h => (fitsAll _ af h).2 k rfl

end Go.Proofs.YtbgblfbbeamleaaGreatDoor
