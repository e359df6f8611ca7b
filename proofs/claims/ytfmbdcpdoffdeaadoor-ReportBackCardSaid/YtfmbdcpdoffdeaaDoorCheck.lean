/-
 The abstract code of each function fits the loaded function; printed by a program (gen.py).
-/
import Derived.Test.YtfmbdcpdoffdeaaDoorCode
import Derived.Test.YtfmbdcpdoffdeaaDoorRun
import Derived.Test.YtfmbdcpdoffdeaaDoorChecked
namespace Go.Proofs.YtfmbdcpdoffdeaaDoor
open Go.AM
theorem k_flotsamlaw33_ReportBack : chkF Tryd.prog Tryd.f3 c_flotsamlaw33_ReportBack = true := by kernel_rfl
theorem k_flotsamlaw32_Few : chkF Tryd.prog Tryd.f4 c_flotsamlaw32_Few = true := by kernel_rfl
theorem k_flotsamlaw33_knows : chkF Tryd.prog Tryd.f5 c_flotsamlaw33_knows = true := by kernel_rfl
theorem k_report_Print : chkF Tryd.prog Tryd.f6 c_report_Print = true := by kernel_rfl
theorem k_score_Right : chkF Tryd.prog Tryd.f8 c_score_Right = true := by kernel_rfl
theorem k_flotsamref31_Same : chkF Tryd.prog Tryd.f9 c_flotsamref31_Same = true := by kernel_rfl
theorem k_flotsamlaw32_One : chkF Tryd.prog Tryd.f10 c_flotsamlaw32_One = true := by kernel_rfl
theorem k_report_Brief : chkF Tryd.prog Tryd.f11 c_report_Brief = true := by kernel_rfl
theorem k_report_lines : chkF Tryd.prog Tryd.f12 c_report_lines = true := by kernel_rfl
theorem k_score_odd : chkF Tryd.prog Tryd.f18 c_score_odd = true := by kernel_rfl
theorem k_cell_Sum : chkF Tryd.prog Tryd.f19 c_cell_Sum = true := by kernel_rfl
theorem k_sC_Cell_api_Cell : chkF Tryd.prog Tryd.f20 c_sC_Cell_api_Cell = true := by kernel_rfl
theorem k_site_Name : chkF Tryd.prog Tryd.f21 c_site_Name = true := by kernel_rfl
theorem k_slices_Contains_api_Site_api_Site : chkF Tryd.prog Tryd.f22 c_slices_Contains_api_Site_api_Site = true := by kernel_rfl
theorem k_flotsamref30_Same : chkF Tryd.prog Tryd.f23 c_flotsamref30_Same = true := by kernel_rfl
theorem k_score_Mutants : chkF Tryd.prog Tryd.f24 c_score_Mutants = true := by kernel_rfl
theorem k_report_words : chkF Tryd.prog Tryd.f25 c_report_words = true := by kernel_rfl
theorem k_report_digits : chkF Tryd.prog Tryd.f26 c_report_digits = true := by kernel_rfl
theorem k_report_total : chkF Tryd.prog Tryd.f27 c_report_total = true := by kernel_rfl
theorem k_report_lines_1 : chkF Tryd.prog Tryd.f28 c_report_lines_1 = true := by kernel_rfl
theorem k_report_lines_1_1 : chkF Tryd.prog Tryd.f29 c_report_lines_1_1 = true := by kernel_rfl
theorem k_cell_Show : chkF Tryd.prog Tryd.f30 c_cell_Show = true := by kernel_rfl
theorem k_strings_CutPrefix : chkF Tryd.prog Tryd.f33 c_strings_CutPrefix = true := by kernel_rfl
theorem k_score_odd_1 : chkF Tryd.prog Tryd.f36 c_score_odd_1 = true := by kernel_rfl
theorem k_score_count_api_Cell : chkF Tryd.prog Tryd.f37 c_score_count_api_Cell = true := by kernel_rfl
theorem k_cell_Right : chkF Tryd.prog Tryd.f38 c_cell_Right = true := by kernel_rfl
theorem k_sI_Cell_api_Cell : chkF Tryd.prog Tryd.f39 c_sI_Cell_api_Cell = true := by kernel_rfl
theorem k_site_words : chkF Tryd.prog Tryd.f40 c_site_words = true := by kernel_rfl
theorem k_site_may : chkF Tryd.prog Tryd.f41 c_site_may = true := by kernel_rfl
theorem k_site_Word : chkF Tryd.prog Tryd.f42 c_site_Word = true := by kernel_rfl
theorem k_num_Digits : chkF Tryd.prog Tryd.f43 c_num_Digits = true := by kernel_rfl
theorem k_slices_Index_api_Site_api_Site : chkF Tryd.prog Tryd.f45 c_slices_Index_api_Site_api_Site = true := by kernel_rfl
theorem k_score_Mutants_1 : chkF Tryd.prog Tryd.f46 c_score_Mutants_1 = true := by kernel_rfl
theorem k_score_count_api_Cell_x : chkF Tryd.prog Tryd.f47 c_score_count_api_Cell_x = true := by kernel_rfl
theorem k_score_Mutants_1_1 : chkF Tryd.prog Tryd.f48 c_score_Mutants_1_1 = true := by kernel_rfl
theorem k_score_Score : chkF Tryd.prog Tryd.f49 c_score_Score = true := by kernel_rfl
theorem k_cell_head : chkF Tryd.prog Tryd.f50 c_cell_head = true := by kernel_rfl
theorem k_trace_Err : chkF Tryd.prog Tryd.f51 c_trace_Err = true := by kernel_rfl
theorem k_isl_CutPrefix : chkF Tryd.prog Tryd.f56 c_isl_CutPrefix = true := by kernel_rfl
theorem k_cell_Read : chkF Tryd.prog Tryd.f57 c_cell_Read = true := by kernel_rfl
theorem k_site_Read : chkF Tryd.prog Tryd.f58 c_site_Read = true := by kernel_rfl
theorem k_cell_witness : chkF Tryd.prog Tryd.f59 c_cell_witness = true := by kernel_rfl
theorem k_cell_limit : chkF Tryd.prog Tryd.f60 c_cell_limit = true := by kernel_rfl
theorem k_score_says : chkF Tryd.prog Tryd.f63 c_score_says = true := by kernel_rfl
theorem k_trace_pick : chkF Tryd.prog Tryd.f64 c_trace_pick = true := by kernel_rfl
theorem k_isl_HasPrefix : chkF Tryd.prog Tryd.f69 c_isl_HasPrefix = true := by kernel_rfl
theorem k_cell_killed : chkF Tryd.prog Tryd.f70 c_cell_killed = true := by kernel_rfl
theorem k_cell_errno : chkF Tryd.prog Tryd.f71 c_cell_errno = true := by kernel_rfl
theorem k_num_Read : chkF Tryd.prog Tryd.f72 c_num_Read = true := by kernel_rfl
theorem k_score_says_1 : chkF Tryd.prog Tryd.f76 c_score_says_1 = true := by kernel_rfl
theorem lab_report_Print : LabC tbl c_report_Print.body := LabC.list (l := [(q_report_Print_0, a_report_Print_0, y_report_Print_0)]) (by kernel_rfl) ⟨u_report_Print_0, trivial⟩
theorem kw_report_Read : chkW Tryd.prog Tryd.f7 c_report_Read_w = true := by kernel_rfl
theorem kw_report_all : chkW Tryd.prog Tryd.f16 c_report_all_w = true := by kernel_rfl
theorem kw_preport_reader_take : chkW Tryd.prog Tryd.f17 c_preport_reader_take_w = true := by kernel_rfl
theorem kw_preport_reader_add : chkW Tryd.prog Tryd.f34 c_preport_reader_add_w = true := by kernel_rfl
theorem kw_preport_reader_row : chkW Tryd.prog Tryd.f35 c_preport_reader_row_w = true := by kernel_rfl
set_option maxRecDepth 100000 in
theorem fitsAll : ∀ k af, tbl k = some af → Fit Tryd.prog tbl k af :=
 Tab.cons (p := Fit Tryd.prog tbl) (.plain ⟨_, Tryd.func3, k_flotsamlaw33_ReportBack⟩ (LabC.none rfl)) <|
 Tab.cons (p := Fit Tryd.prog tbl) (.plain ⟨_, Tryd.func4, k_flotsamlaw32_Few⟩ (LabC.none rfl)) <|
 Tab.cons (p := Fit Tryd.prog tbl) (.plain ⟨_, Tryd.func5, k_flotsamlaw33_knows⟩ (LabC.none rfl)) <|
 Tab.cons (p := Fit Tryd.prog tbl) (.plain ⟨_, Tryd.func6, k_report_Print⟩ lab_report_Print) <|
 Tab.cons (p := Fit Tryd.prog tbl) (.plain ⟨_, Tryd.func8, k_score_Right⟩ (LabC.none rfl)) <|
 Tab.cons (p := Fit Tryd.prog tbl) (.plain ⟨_, Tryd.func9, k_flotsamref31_Same⟩ (LabC.none rfl)) <|
 Tab.cons (p := Fit Tryd.prog tbl) (.plain ⟨_, Tryd.func10, k_flotsamlaw32_One⟩ (LabC.none rfl)) <|
 Tab.cons (p := Fit Tryd.prog tbl) (.plain ⟨_, Tryd.func11, k_report_Brief⟩ (LabC.none rfl)) <|
 Tab.cons (p := Fit Tryd.prog tbl) (.plain ⟨_, Tryd.func12, k_report_lines⟩ (LabC.none rfl)) <|
 Tab.cons (p := Fit Tryd.prog tbl) (.plain ⟨_, Tryd.func18, k_score_odd⟩ (LabC.none rfl)) <|
 Tab.cons (p := Fit Tryd.prog tbl) (.plain ⟨_, Tryd.func19, k_cell_Sum⟩ (LabC.none rfl)) <|
 Tab.cons (p := Fit Tryd.prog tbl) (.plain ⟨_, Tryd.func20, k_sC_Cell_api_Cell⟩ (LabC.none rfl)) <|
 Tab.cons (p := Fit Tryd.prog tbl) (.plain ⟨_, Tryd.func21, k_site_Name⟩ (LabC.none rfl)) <|
 Tab.cons (p := Fit Tryd.prog tbl) (.plain ⟨_, Tryd.func22, k_slices_Contains_api_Site_api_Site⟩ (LabC.none rfl)) <|
 Tab.cons (p := Fit Tryd.prog tbl) (.plain ⟨_, Tryd.func23, k_flotsamref30_Same⟩ (LabC.none rfl)) <|
 Tab.cons (p := Fit Tryd.prog tbl) (.plain ⟨_, Tryd.func24, k_score_Mutants⟩ (LabC.none rfl)) <|
 Tab.cons (p := Fit Tryd.prog tbl) (.plain ⟨_, Tryd.func25, k_report_words⟩ (LabC.none rfl)) <|
 Tab.cons (p := Fit Tryd.prog tbl) (.plain ⟨_, Tryd.func26, k_report_digits⟩ (LabC.none rfl)) <|
 Tab.cons (p := Fit Tryd.prog tbl) (.plain ⟨_, Tryd.func27, k_report_total⟩ (LabC.none rfl)) <|
 Tab.cons (p := Fit Tryd.prog tbl) (.plain ⟨_, Tryd.func28, k_report_lines_1⟩ (LabC.none rfl)) <|
 Tab.cons (p := Fit Tryd.prog tbl) (.plain ⟨_, Tryd.func29, k_report_lines_1_1⟩ (LabC.none rfl)) <|
 Tab.cons (p := Fit Tryd.prog tbl) (.plain ⟨_, Tryd.func30, k_cell_Show⟩ (LabC.none rfl)) <|
 Tab.cons (p := Fit Tryd.prog tbl) (.plain ⟨_, Tryd.func33, k_strings_CutPrefix⟩ (LabC.none rfl)) <|
 Tab.cons (p := Fit Tryd.prog tbl) (.plain ⟨_, Tryd.func36, k_score_odd_1⟩ (LabC.none rfl)) <|
 Tab.cons (p := Fit Tryd.prog tbl) (.plain ⟨_, Tryd.func37, k_score_count_api_Cell⟩ (LabC.none rfl)) <|
 Tab.cons (p := Fit Tryd.prog tbl) (.plain ⟨_, Tryd.func38, k_cell_Right⟩ (LabC.none rfl)) <|
 Tab.cons (p := Fit Tryd.prog tbl) (.plain ⟨_, Tryd.func39, k_sI_Cell_api_Cell⟩ (LabC.none rfl)) <|
 Tab.cons (p := Fit Tryd.prog tbl) (.plain ⟨_, Tryd.func40, k_site_words⟩ (LabC.none rfl)) <|
 Tab.cons (p := Fit Tryd.prog tbl) (.plain ⟨_, Tryd.func41, k_site_may⟩ (LabC.none rfl)) <|
 Tab.cons (p := Fit Tryd.prog tbl) (.plain ⟨_, Tryd.func42, k_site_Word⟩ (LabC.none rfl)) <|
 Tab.cons (p := Fit Tryd.prog tbl) (.plain ⟨_, Tryd.func43, k_num_Digits⟩ (LabC.none rfl)) <|
 Tab.cons (p := Fit Tryd.prog tbl) (.plain ⟨_, Tryd.func45, k_slices_Index_api_Site_api_Site⟩ (LabC.none rfl)) <|
 Tab.cons (p := Fit Tryd.prog tbl) (.plain ⟨_, Tryd.func46, k_score_Mutants_1⟩ (LabC.none rfl)) <|
 Tab.cons (p := Fit Tryd.prog tbl) (.plain ⟨_, Tryd.func47, k_score_count_api_Cell_x⟩ (LabC.none rfl)) <|
 Tab.cons (p := Fit Tryd.prog tbl) (.plain ⟨_, Tryd.func48, k_score_Mutants_1_1⟩ (LabC.none rfl)) <|
 Tab.cons (p := Fit Tryd.prog tbl) (.plain ⟨_, Tryd.func49, k_score_Score⟩ (LabC.none rfl)) <|
 Tab.cons (p := Fit Tryd.prog tbl) (.plain ⟨_, Tryd.func50, k_cell_head⟩ (LabC.none rfl)) <|
 Tab.cons (p := Fit Tryd.prog tbl) (.plain ⟨_, Tryd.func51, k_trace_Err⟩ (LabC.none rfl)) <|
 Tab.cons (p := Fit Tryd.prog tbl) (.plain ⟨_, Tryd.func56, k_isl_CutPrefix⟩ (LabC.none rfl)) <|
 Tab.cons (p := Fit Tryd.prog tbl) (.plain ⟨_, Tryd.func57, k_cell_Read⟩ (LabC.none rfl)) <|
 Tab.cons (p := Fit Tryd.prog tbl) (.plain ⟨_, Tryd.func58, k_site_Read⟩ (LabC.none rfl)) <|
 Tab.cons (p := Fit Tryd.prog tbl) (.plain ⟨_, Tryd.func59, k_cell_witness⟩ (LabC.none rfl)) <|
 Tab.cons (p := Fit Tryd.prog tbl) (.plain ⟨_, Tryd.func60, k_cell_limit⟩ (LabC.none rfl)) <|
 Tab.cons (p := Fit Tryd.prog tbl) (.plain ⟨_, Tryd.func63, k_score_says⟩ (LabC.none rfl)) <|
 Tab.cons (p := Fit Tryd.prog tbl) (.plain ⟨_, Tryd.func64, k_trace_pick⟩ (LabC.none rfl)) <|
 Tab.cons (p := Fit Tryd.prog tbl) (.plain ⟨_, Tryd.func69, k_isl_HasPrefix⟩ (LabC.none rfl)) <|
 Tab.cons (p := Fit Tryd.prog tbl) (.plain ⟨_, Tryd.func70, k_cell_killed⟩ (LabC.none rfl)) <|
 Tab.cons (p := Fit Tryd.prog tbl) (.plain ⟨_, Tryd.func71, k_cell_errno⟩ (LabC.none rfl)) <|
 Tab.cons (p := Fit Tryd.prog tbl) (.plain ⟨_, Tryd.func72, k_num_Read⟩ (LabC.none rfl)) <|
 Tab.cons (p := Fit Tryd.prog tbl) (.plain ⟨_, Tryd.func76, k_score_says_1⟩ (LabC.none rfl)) <|
 Tab.cons (p := Fit Tryd.prog tbl) (.wide (k := 7) ⟨_, Tryd.func7, kw_report_Read⟩ (LabC.none rfl)) <|
 Tab.cons (p := Fit Tryd.prog tbl) (.wide (k := 16) ⟨_, Tryd.func16, kw_report_all⟩ (LabC.none rfl)) <|
 Tab.cons (p := Fit Tryd.prog tbl) (.wide (k := 17) ⟨_, Tryd.func17, kw_preport_reader_take⟩ (LabC.none rfl)) <|
 Tab.cons (p := Fit Tryd.prog tbl) (.wide (k := 34) ⟨_, Tryd.func34, kw_preport_reader_add⟩ (LabC.none rfl)) <|
 Tab.cons (p := Fit Tryd.prog tbl) (.wide (k := 35) ⟨_, Tryd.func35, kw_preport_reader_row⟩ (LabC.none rfl)) <|
 Tab.cons (p := Fit Tryd.prog tbl) (.label (Nat.le_of_ble_eq_true rfl) (Nat.le_of_ble_eq_true rfl)) <|
 Tab.nil
theorem fits : ∀ k af, tbl k = some af → k < yBase → (∃ fn, Tryd.prog.funcs[k]? = some fn ∧ chkF Tryd.prog fn af = true) ∧ LabC tbl af.body := fun k af h => (fitsAll k af h).1
theorem fitsW : ∀ k af, tbl (wTab k) = some af → (∃ fn, Tryd.prog.funcs[k]? = some fn ∧ chkW Tryd.prog fn af = true) ∧ LabC tbl af.body := fun k af h => (fitsAll _ af h).2 k rfl
end Go.Proofs.YtfmbdcpdoffdeaaDoor
