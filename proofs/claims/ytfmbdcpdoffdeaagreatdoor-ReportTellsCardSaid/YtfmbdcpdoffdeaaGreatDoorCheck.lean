/-
 The abstract code of each function fits the loaded function; printed by a program (gen.py).
-/
import Derived.Test.YtfmbdcpdoffdeaaGreatDoorCode
import Derived.Test.YtfmbdcpdoffdeaaGreatDoorRun
import Derived.Test.YtfmbdcpdoffdeaaGreatDoorChecked
namespace Go.Proofs.YtfmbdcpdoffdeaaGreatDoor
open Go.AM
theorem k_flotsamlaw33_ReportTells : chkF Tryz.prog Tryz.f3 c_flotsamlaw33_ReportTells = true := by kernel_rfl
theorem k_flotsamlaw32_Few : chkF Tryz.prog Tryz.f4 c_flotsamlaw32_Few = true := by kernel_rfl
theorem k_flotsamlaw33_knows : chkF Tryz.prog Tryz.f5 c_flotsamlaw33_knows = true := by kernel_rfl
theorem k_report_Print : chkF Tryz.prog Tryz.f6 c_report_Print = true := by kernel_rfl
theorem k_r33_Print : chkF Tryz.prog Tryz.f7 c_r33_Print = true := by kernel_rfl
theorem k_flotsamref31_Same : chkF Tryz.prog Tryz.f10 c_flotsamref31_Same = true := by kernel_rfl
theorem k_report_Brief : chkF Tryz.prog Tryz.f11 c_report_Brief = true := by kernel_rfl
theorem k_r33_Brief : chkF Tryz.prog Tryz.f12 c_r33_Brief = true := by kernel_rfl
theorem k_flotsamlaw32_One : chkF Tryz.prog Tryz.f13 c_flotsamlaw32_One = true := by kernel_rfl
theorem k_score_Right : chkF Tryz.prog Tryz.f14 c_score_Right = true := by kernel_rfl
theorem k_report_lines : chkF Tryz.prog Tryz.f15 c_report_lines = true := by kernel_rfl
theorem k_flotsamref32_Right : chkF Tryz.prog Tryz.f18 c_flotsamref32_Right = true := by kernel_rfl
theorem k_r33_cells : chkF Tryz.prog Tryz.f19 c_r33_cells = true := by kernel_rfl
theorem k_r25_Name : chkF Tryz.prog Tryz.f20 c_r25_Name = true := by kernel_rfl
theorem k_r33_score : chkF Tryz.prog Tryz.f21 c_r33_score = true := by kernel_rfl
theorem k_r33_Lines : chkF Tryz.prog Tryz.f25 c_r33_Lines = true := by kernel_rfl
theorem k_r25_Read : chkF Tryz.prog Tryz.f26 c_r25_Read = true := by kernel_rfl
theorem k_flotsamref30_Read : chkF Tryz.prog Tryz.f27 c_flotsamref30_Read = true := by kernel_rfl
theorem k_flotsamref30_Same : chkF Tryz.prog Tryz.f28 c_flotsamref30_Same = true := by kernel_rfl
theorem k_score_Mutants : chkF Tryz.prog Tryz.f29 c_score_Mutants = true := by kernel_rfl
theorem k_report_words : chkF Tryz.prog Tryz.f30 c_report_words = true := by kernel_rfl
theorem k_report_digits : chkF Tryz.prog Tryz.f31 c_report_digits = true := by kernel_rfl
theorem k_report_total : chkF Tryz.prog Tryz.f32 c_report_total = true := by kernel_rfl
theorem k_flotsamref32_Mutants : chkF Tryz.prog Tryz.f33 c_flotsamref32_Mutants = true := by kernel_rfl
theorem k_r33_digits : chkF Tryz.prog Tryz.f34 c_r33_digits = true := by kernel_rfl
theorem k_score_odd : chkF Tryz.prog Tryz.f35 c_score_odd = true := by kernel_rfl
theorem k_cell_Sum : chkF Tryz.prog Tryz.f36 c_cell_Sum = true := by kernel_rfl
theorem k_sC_Cell_api_Cell : chkF Tryz.prog Tryz.f37 c_sC_Cell_api_Cell = true := by kernel_rfl
theorem k_site_Name : chkF Tryz.prog Tryz.f38 c_site_Name = true := by kernel_rfl
theorem k_slices_Contains_api_Site_api_Site : chkF Tryz.prog Tryz.f39 c_slices_Contains_api_Site_api_Site = true := by kernel_rfl
theorem k_report_lines_1 : chkF Tryz.prog Tryz.f40 c_report_lines_1 = true := by kernel_rfl
theorem k_report_lines_1_1 : chkF Tryz.prog Tryz.f41 c_report_lines_1_1 = true := by kernel_rfl
theorem k_cell_Show : chkF Tryz.prog Tryz.f42 c_cell_Show = true := by kernel_rfl
theorem k_flotsamref32_cells : chkF Tryz.prog Tryz.f44 c_flotsamref32_cells = true := by kernel_rfl
theorem k_flotsamref30_Sum : chkF Tryz.prog Tryz.f45 c_flotsamref30_Sum = true := by kernel_rfl
theorem k_flotsamref30_Show : chkF Tryz.prog Tryz.f46 c_flotsamref30_Show = true := by kernel_rfl
theorem k_r25_may : chkF Tryz.prog Tryz.f47 c_r25_may = true := by kernel_rfl
theorem k_r25_Word : chkF Tryz.prog Tryz.f48 c_r25_Word = true := by kernel_rfl
theorem k_r01_Digits : chkF Tryz.prog Tryz.f49 c_r01_Digits = true := by kernel_rfl
theorem k_flotsamref32_Score : chkF Tryz.prog Tryz.f50 c_flotsamref32_Score = true := by kernel_rfl
theorem k_strings_CutPrefix : chkF Tryz.prog Tryz.f52 c_strings_CutPrefix = true := by kernel_rfl
theorem k_r01_Read : chkF Tryz.prog Tryz.f55 c_r01_Read = true := by kernel_rfl
theorem k_flotsamref30_Words : chkF Tryz.prog Tryz.f56 c_flotsamref30_Words = true := by kernel_rfl
theorem k_flotsamref30_ErrOf : chkF Tryz.prog Tryz.f57 c_flotsamref30_ErrOf = true := by kernel_rfl
theorem k_score_Mutants_1 : chkF Tryz.prog Tryz.f58 c_score_Mutants_1 = true := by kernel_rfl
theorem k_score_count_api_Cell_x : chkF Tryz.prog Tryz.f59 c_score_count_api_Cell_x = true := by kernel_rfl
theorem k_score_Mutants_1_1 : chkF Tryz.prog Tryz.f60 c_score_Mutants_1_1 = true := by kernel_rfl
theorem k_num_Digits : chkF Tryz.prog Tryz.f62 c_num_Digits = true := by kernel_rfl
theorem k_score_Score : chkF Tryz.prog Tryz.f63 c_score_Score = true := by kernel_rfl
theorem k_score_odd_1 : chkF Tryz.prog Tryz.f64 c_score_odd_1 = true := by kernel_rfl
theorem k_score_count_api_Cell : chkF Tryz.prog Tryz.f65 c_score_count_api_Cell = true := by kernel_rfl
theorem k_cell_Right : chkF Tryz.prog Tryz.f66 c_cell_Right = true := by kernel_rfl
theorem k_sI_Cell_api_Cell : chkF Tryz.prog Tryz.f67 c_sI_Cell_api_Cell = true := by kernel_rfl
theorem k_site_words : chkF Tryz.prog Tryz.f68 c_site_words = true := by kernel_rfl
theorem k_site_may : chkF Tryz.prog Tryz.f69 c_site_may = true := by kernel_rfl
theorem k_site_Word : chkF Tryz.prog Tryz.f70 c_site_Word = true := by kernel_rfl
theorem k_slices_Index_api_Site_api_Site : chkF Tryz.prog Tryz.f71 c_slices_Index_api_Site_api_Site = true := by kernel_rfl
theorem k_cell_head : chkF Tryz.prog Tryz.f72 c_cell_head = true := by kernel_rfl
theorem k_trace_Err : chkF Tryz.prog Tryz.f73 c_trace_Err = true := by kernel_rfl
theorem k_flotsamref30_Right : chkF Tryz.prog Tryz.f75 c_flotsamref30_Right = true := by kernel_rfl
theorem k_flotsamref24_Err : chkF Tryz.prog Tryz.f76 c_flotsamref24_Err = true := by kernel_rfl
theorem k_isl_CutPrefix : chkF Tryz.prog Tryz.f80 c_isl_CutPrefix = true := by kernel_rfl
theorem k_cell_Read : chkF Tryz.prog Tryz.f81 c_cell_Read = true := by kernel_rfl
theorem k_site_Read : chkF Tryz.prog Tryz.f82 c_site_Read = true := by kernel_rfl
theorem k_score_says : chkF Tryz.prog Tryz.f84 c_score_says = true := by kernel_rfl
theorem k_cell_witness : chkF Tryz.prog Tryz.f85 c_cell_witness = true := by kernel_rfl
theorem k_cell_limit : chkF Tryz.prog Tryz.f86 c_cell_limit = true := by kernel_rfl
theorem k_trace_pick : chkF Tryz.prog Tryz.f88 c_trace_pick = true := by kernel_rfl
theorem k_isl_HasPrefix : chkF Tryz.prog Tryz.f93 c_isl_HasPrefix = true := by kernel_rfl
theorem k_cell_killed : chkF Tryz.prog Tryz.f94 c_cell_killed = true := by kernel_rfl
theorem k_cell_errno : chkF Tryz.prog Tryz.f95 c_cell_errno = true := by kernel_rfl
theorem k_num_Read : chkF Tryz.prog Tryz.f96 c_num_Read = true := by kernel_rfl
theorem k_score_says_1 : chkF Tryz.prog Tryz.f98 c_score_says_1 = true := by kernel_rfl
theorem lab_report_Print : LabC tbl c_report_Print.body := LabC.list (l := [(q_report_Print_0, a_report_Print_0, y_report_Print_0)]) (by kernel_rfl) ⟨u_report_Print_0, trivial⟩
theorem kw_report_Read : chkW Tryz.prog Tryz.f8 c_report_Read_w = true := by kernel_rfl
theorem kw_flotsamref33_Read : chkW Tryz.prog Tryz.f9 c_r33_Read_w = true := by kernel_rfl
theorem kw_report_all : chkW Tryz.prog Tryz.f23 c_report_all_w = true := by kernel_rfl
theorem kw_preport_reader_take : chkW Tryz.prog Tryz.f24 c_preport_reader_take_w = true := by kernel_rfl
theorem kw_preport_reader_add : chkW Tryz.prog Tryz.f53 c_preport_reader_add_w = true := by kernel_rfl
theorem kw_preport_reader_row : chkW Tryz.prog Tryz.f54 c_preport_reader_row_w = true := by kernel_rfl
set_option maxRecDepth 100000 in
theorem fitsAll : ∀ k af, tbl k = some af → Fit Tryz.prog tbl k af :=
 Tab.cons (p := Fit Tryz.prog tbl) (.plain ⟨_, Tryz.func3, k_flotsamlaw33_ReportTells⟩ (LabC.none rfl)) <|
 Tab.cons (p := Fit Tryz.prog tbl) (.plain ⟨_, Tryz.func4, k_flotsamlaw32_Few⟩ (LabC.none rfl)) <|
 Tab.cons (p := Fit Tryz.prog tbl) (.plain ⟨_, Tryz.func5, k_flotsamlaw33_knows⟩ (LabC.none rfl)) <|
 Tab.cons (p := Fit Tryz.prog tbl) (.plain ⟨_, Tryz.func6, k_report_Print⟩ lab_report_Print) <|
 Tab.cons (p := Fit Tryz.prog tbl) (.plain ⟨_, Tryz.func7, k_r33_Print⟩ (LabC.none rfl)) <|
 Tab.cons (p := Fit Tryz.prog tbl) (.plain ⟨_, Tryz.func10, k_flotsamref31_Same⟩ (LabC.none rfl)) <|
 Tab.cons (p := Fit Tryz.prog tbl) (.plain ⟨_, Tryz.func11, k_report_Brief⟩ (LabC.none rfl)) <|
 Tab.cons (p := Fit Tryz.prog tbl) (.plain ⟨_, Tryz.func12, k_r33_Brief⟩ (LabC.none rfl)) <|
 Tab.cons (p := Fit Tryz.prog tbl) (.plain ⟨_, Tryz.func13, k_flotsamlaw32_One⟩ (LabC.none rfl)) <|
 Tab.cons (p := Fit Tryz.prog tbl) (.plain ⟨_, Tryz.func14, k_score_Right⟩ (LabC.none rfl)) <|
 Tab.cons (p := Fit Tryz.prog tbl) (.plain ⟨_, Tryz.func15, k_report_lines⟩ (LabC.none rfl)) <|
 Tab.cons (p := Fit Tryz.prog tbl) (.plain ⟨_, Tryz.func18, k_flotsamref32_Right⟩ (LabC.none rfl)) <|
 Tab.cons (p := Fit Tryz.prog tbl) (.plain ⟨_, Tryz.func19, k_r33_cells⟩ (LabC.none rfl)) <|
 Tab.cons (p := Fit Tryz.prog tbl) (.plain ⟨_, Tryz.func20, k_r25_Name⟩ (LabC.none rfl)) <|
 Tab.cons (p := Fit Tryz.prog tbl) (.plain ⟨_, Tryz.func21, k_r33_score⟩ (LabC.none rfl)) <|
 Tab.cons (p := Fit Tryz.prog tbl) (.plain ⟨_, Tryz.func25, k_r33_Lines⟩ (LabC.none rfl)) <|
 Tab.cons (p := Fit Tryz.prog tbl) (.plain ⟨_, Tryz.func26, k_r25_Read⟩ (LabC.none rfl)) <|
 Tab.cons (p := Fit Tryz.prog tbl) (.plain ⟨_, Tryz.func27, k_flotsamref30_Read⟩ (LabC.none rfl)) <|
 Tab.cons (p := Fit Tryz.prog tbl) (.plain ⟨_, Tryz.func28, k_flotsamref30_Same⟩ (LabC.none rfl)) <|
 Tab.cons (p := Fit Tryz.prog tbl) (.plain ⟨_, Tryz.func29, k_score_Mutants⟩ (LabC.none rfl)) <|
 Tab.cons (p := Fit Tryz.prog tbl) (.plain ⟨_, Tryz.func30, k_report_words⟩ (LabC.none rfl)) <|
 Tab.cons (p := Fit Tryz.prog tbl) (.plain ⟨_, Tryz.func31, k_report_digits⟩ (LabC.none rfl)) <|
 Tab.cons (p := Fit Tryz.prog tbl) (.plain ⟨_, Tryz.func32, k_report_total⟩ (LabC.none rfl)) <|
 Tab.cons (p := Fit Tryz.prog tbl) (.plain ⟨_, Tryz.func33, k_flotsamref32_Mutants⟩ (LabC.none rfl)) <|
 Tab.cons (p := Fit Tryz.prog tbl) (.plain ⟨_, Tryz.func34, k_r33_digits⟩ (LabC.none rfl)) <|
 Tab.cons (p := Fit Tryz.prog tbl) (.plain ⟨_, Tryz.func35, k_score_odd⟩ (LabC.none rfl)) <|
 Tab.cons (p := Fit Tryz.prog tbl) (.plain ⟨_, Tryz.func36, k_cell_Sum⟩ (LabC.none rfl)) <|
 Tab.cons (p := Fit Tryz.prog tbl) (.plain ⟨_, Tryz.func37, k_sC_Cell_api_Cell⟩ (LabC.none rfl)) <|
 Tab.cons (p := Fit Tryz.prog tbl) (.plain ⟨_, Tryz.func38, k_site_Name⟩ (LabC.none rfl)) <|
 Tab.cons (p := Fit Tryz.prog tbl) (.plain ⟨_, Tryz.func39, k_slices_Contains_api_Site_api_Site⟩ (LabC.none rfl)) <|
 Tab.cons (p := Fit Tryz.prog tbl) (.plain ⟨_, Tryz.func40, k_report_lines_1⟩ (LabC.none rfl)) <|
 Tab.cons (p := Fit Tryz.prog tbl) (.plain ⟨_, Tryz.func41, k_report_lines_1_1⟩ (LabC.none rfl)) <|
 Tab.cons (p := Fit Tryz.prog tbl) (.plain ⟨_, Tryz.func42, k_cell_Show⟩ (LabC.none rfl)) <|
 Tab.cons (p := Fit Tryz.prog tbl) (.plain ⟨_, Tryz.func44, k_flotsamref32_cells⟩ (LabC.none rfl)) <|
 Tab.cons (p := Fit Tryz.prog tbl) (.plain ⟨_, Tryz.func45, k_flotsamref30_Sum⟩ (LabC.none rfl)) <|
 Tab.cons (p := Fit Tryz.prog tbl) (.plain ⟨_, Tryz.func46, k_flotsamref30_Show⟩ (LabC.none rfl)) <|
 Tab.cons (p := Fit Tryz.prog tbl) (.plain ⟨_, Tryz.func47, k_r25_may⟩ (LabC.none rfl)) <|
 Tab.cons (p := Fit Tryz.prog tbl) (.plain ⟨_, Tryz.func48, k_r25_Word⟩ (LabC.none rfl)) <|
 Tab.cons (p := Fit Tryz.prog tbl) (.plain ⟨_, Tryz.func49, k_r01_Digits⟩ (LabC.none rfl)) <|
 Tab.cons (p := Fit Tryz.prog tbl) (.plain ⟨_, Tryz.func50, k_flotsamref32_Score⟩ (LabC.none rfl)) <|
 Tab.cons (p := Fit Tryz.prog tbl) (.plain ⟨_, Tryz.func52, k_strings_CutPrefix⟩ (LabC.none rfl)) <|
 Tab.cons (p := Fit Tryz.prog tbl) (.plain ⟨_, Tryz.func55, k_r01_Read⟩ (LabC.none rfl)) <|
 Tab.cons (p := Fit Tryz.prog tbl) (.plain ⟨_, Tryz.func56, k_flotsamref30_Words⟩ (LabC.none rfl)) <|
 Tab.cons (p := Fit Tryz.prog tbl) (.plain ⟨_, Tryz.func57, k_flotsamref30_ErrOf⟩ (LabC.none rfl)) <|
 Tab.cons (p := Fit Tryz.prog tbl) (.plain ⟨_, Tryz.func58, k_score_Mutants_1⟩ (LabC.none rfl)) <|
 Tab.cons (p := Fit Tryz.prog tbl) (.plain ⟨_, Tryz.func59, k_score_count_api_Cell_x⟩ (LabC.none rfl)) <|
 Tab.cons (p := Fit Tryz.prog tbl) (.plain ⟨_, Tryz.func60, k_score_Mutants_1_1⟩ (LabC.none rfl)) <|
 Tab.cons (p := Fit Tryz.prog tbl) (.plain ⟨_, Tryz.func62, k_num_Digits⟩ (LabC.none rfl)) <|
 Tab.cons (p := Fit Tryz.prog tbl) (.plain ⟨_, Tryz.func63, k_score_Score⟩ (LabC.none rfl)) <|
 Tab.cons (p := Fit Tryz.prog tbl) (.plain ⟨_, Tryz.func64, k_score_odd_1⟩ (LabC.none rfl)) <|
 Tab.cons (p := Fit Tryz.prog tbl) (.plain ⟨_, Tryz.func65, k_score_count_api_Cell⟩ (LabC.none rfl)) <|
 Tab.cons (p := Fit Tryz.prog tbl) (.plain ⟨_, Tryz.func66, k_cell_Right⟩ (LabC.none rfl)) <|
 Tab.cons (p := Fit Tryz.prog tbl) (.plain ⟨_, Tryz.func67, k_sI_Cell_api_Cell⟩ (LabC.none rfl)) <|
 Tab.cons (p := Fit Tryz.prog tbl) (.plain ⟨_, Tryz.func68, k_site_words⟩ (LabC.none rfl)) <|
 Tab.cons (p := Fit Tryz.prog tbl) (.plain ⟨_, Tryz.func69, k_site_may⟩ (LabC.none rfl)) <|
 Tab.cons (p := Fit Tryz.prog tbl) (.plain ⟨_, Tryz.func70, k_site_Word⟩ (LabC.none rfl)) <|
 Tab.cons (p := Fit Tryz.prog tbl) (.plain ⟨_, Tryz.func71, k_slices_Index_api_Site_api_Site⟩ (LabC.none rfl)) <|
 Tab.cons (p := Fit Tryz.prog tbl) (.plain ⟨_, Tryz.func72, k_cell_head⟩ (LabC.none rfl)) <|
 Tab.cons (p := Fit Tryz.prog tbl) (.plain ⟨_, Tryz.func73, k_trace_Err⟩ (LabC.none rfl)) <|
 Tab.cons (p := Fit Tryz.prog tbl) (.plain ⟨_, Tryz.func75, k_flotsamref30_Right⟩ (LabC.none rfl)) <|
 Tab.cons (p := Fit Tryz.prog tbl) (.plain ⟨_, Tryz.func76, k_flotsamref24_Err⟩ (LabC.none rfl)) <|
 Tab.cons (p := Fit Tryz.prog tbl) (.plain ⟨_, Tryz.func80, k_isl_CutPrefix⟩ (LabC.none rfl)) <|
 Tab.cons (p := Fit Tryz.prog tbl) (.plain ⟨_, Tryz.func81, k_cell_Read⟩ (LabC.none rfl)) <|
 Tab.cons (p := Fit Tryz.prog tbl) (.plain ⟨_, Tryz.func82, k_site_Read⟩ (LabC.none rfl)) <|
 Tab.cons (p := Fit Tryz.prog tbl) (.plain ⟨_, Tryz.func84, k_score_says⟩ (LabC.none rfl)) <|
 Tab.cons (p := Fit Tryz.prog tbl) (.plain ⟨_, Tryz.func85, k_cell_witness⟩ (LabC.none rfl)) <|
 Tab.cons (p := Fit Tryz.prog tbl) (.plain ⟨_, Tryz.func86, k_cell_limit⟩ (LabC.none rfl)) <|
 Tab.cons (p := Fit Tryz.prog tbl) (.plain ⟨_, Tryz.func88, k_trace_pick⟩ (LabC.none rfl)) <|
 Tab.cons (p := Fit Tryz.prog tbl) (.plain ⟨_, Tryz.func93, k_isl_HasPrefix⟩ (LabC.none rfl)) <|
 Tab.cons (p := Fit Tryz.prog tbl) (.plain ⟨_, Tryz.func94, k_cell_killed⟩ (LabC.none rfl)) <|
 Tab.cons (p := Fit Tryz.prog tbl) (.plain ⟨_, Tryz.func95, k_cell_errno⟩ (LabC.none rfl)) <|
 Tab.cons (p := Fit Tryz.prog tbl) (.plain ⟨_, Tryz.func96, k_num_Read⟩ (LabC.none rfl)) <|
 Tab.cons (p := Fit Tryz.prog tbl) (.plain ⟨_, Tryz.func98, k_score_says_1⟩ (LabC.none rfl)) <|
 Tab.cons (p := Fit Tryz.prog tbl) (.wide (k := 8) ⟨_, Tryz.func8, kw_report_Read⟩ (LabC.none rfl)) <|
 Tab.cons (p := Fit Tryz.prog tbl) (.wide (k := 9) ⟨_, Tryz.func9, kw_flotsamref33_Read⟩ (LabC.none rfl)) <|
 Tab.cons (p := Fit Tryz.prog tbl) (.wide (k := 23) ⟨_, Tryz.func23, kw_report_all⟩ (LabC.none rfl)) <|
 Tab.cons (p := Fit Tryz.prog tbl) (.wide (k := 24) ⟨_, Tryz.func24, kw_preport_reader_take⟩ (LabC.none rfl)) <|
 Tab.cons (p := Fit Tryz.prog tbl) (.wide (k := 53) ⟨_, Tryz.func53, kw_preport_reader_add⟩ (LabC.none rfl)) <|
 Tab.cons (p := Fit Tryz.prog tbl) (.wide (k := 54) ⟨_, Tryz.func54, kw_preport_reader_row⟩ (LabC.none rfl)) <|
 Tab.cons (p := Fit Tryz.prog tbl) (.label (Nat.le_of_ble_eq_true rfl) (Nat.le_of_ble_eq_true rfl)) <|
 Tab.nil
theorem fits : ∀ k af, tbl k = some af → k < yBase → (∃ fn, Tryz.prog.funcs[k]? = some fn ∧ chkF Tryz.prog fn af = true) ∧ LabC tbl af.body := fun k af h => (fitsAll k af h).1
theorem fitsW : ∀ k af, tbl (wTab k) = some af → (∃ fn, Tryz.prog.funcs[k]? = some fn ∧ chkW Tryz.prog fn af = true) ∧ LabC tbl af.body := fun k af h => (fitsAll _ af h).2 k rfl
end Go.Proofs.YtfmbdcpdoffdeaaGreatDoor
