/-
  The abstract code of each function fits the loaded function; printed by a program (gen.py).
-/
import Derived.Test.YtpjogbpjjbbinaaDoorCode
import Derived.Test.YtpjogbpjjbbinaaDoorRun
import Derived.Test.YtpjogbpjjbbinaaDoorChecked
namespace Go.Proofs.YtpjogbpjjbbinaaDoor
open Go.AM

theorem k_flotsamlaw45_GateTells : chkF Tryd.prog Tryd.f3 c_flotsamlaw45_GateTells = true := by kernel_rfl
theorem k_flotsamlaw45_GateTurns : chkF Tryd.prog Tryd.f4 c_flotsamlaw45_GateTurns = true := by kernel_rfl
theorem k_flotsamlaw32_Few : chkF Tryd.prog Tryd.f5 c_flotsamlaw32_Few = true := by kernel_rfl
theorem k_flotsamlaw45_knows : chkF Tryd.prog Tryd.f6 c_flotsamlaw45_knows = true := by kernel_rfl
theorem k_gate_Compare : chkF Tryd.prog Tryd.f7 c_gate_Compare = true := by kernel_rfl
theorem k_flotsamref45_Compare : chkF Tryd.prog Tryd.f8 c_flotsamref45_Compare = true := by kernel_rfl
theorem k_flotsamref45_Same : chkF Tryd.prog Tryd.f9 c_flotsamref45_Same = true := by kernel_rfl
theorem k_flotsamlaw45_back : chkF Tryd.prog Tryd.f10 c_flotsamlaw45_back = true := by kernel_rfl
theorem k_gate_Opens : chkF Tryd.prog Tryd.f11 c_gate_Opens = true := by kernel_rfl
theorem k_flotsamref45_Opens : chkF Tryd.prog Tryd.f12 c_flotsamref45_Opens = true := by kernel_rfl
theorem k_gate_Show : chkF Tryd.prog Tryd.f13 c_gate_Show = true := by kernel_rfl
theorem k_flotsamlaw45_notes : chkF Tryd.prog Tryd.f14 c_flotsamlaw45_notes = true := by kernel_rfl
theorem k_flotsamref45_Show : chkF Tryd.prog Tryd.f15 c_flotsamref45_Show = true := by kernel_rfl
theorem k_score_Right : chkF Tryd.prog Tryd.f16 c_score_Right = true := by kernel_rfl
theorem k_flotsamlaw45_count : chkF Tryd.prog Tryd.f17 c_flotsamlaw45_count = true := by kernel_rfl
theorem k_score_Score : chkF Tryd.prog Tryd.f18 c_score_Score = true := by kernel_rfl
theorem k_flotsamlaw32_One : chkF Tryd.prog Tryd.f19 c_flotsamlaw32_One = true := by kernel_rfl
theorem k_flotsamlaw45_other : chkF Tryd.prog Tryd.f20 c_flotsamlaw45_other = true := by kernel_rfl
theorem k_gate_rows : chkF Tryd.prog Tryd.f21 c_gate_rows = true := by kernel_rfl
theorem k_gate_kind : chkF Tryd.prog Tryd.f22 c_gate_kind = true := by kernel_rfl
theorem k_flotsamref32_Right : chkF Tryd.prog Tryd.f23 c_flotsamref32_Right = true := by kernel_rfl
theorem k_flotsamref45_row : chkF Tryd.prog Tryd.f24 c_flotsamref45_row = true := by kernel_rfl
theorem k_flotsamref45_kind : chkF Tryd.prog Tryd.f25 c_flotsamref45_kind = true := by kernel_rfl
theorem k_site_Name : chkF Tryd.prog Tryd.f26 c_site_Name = true := by kernel_rfl
theorem k_gate_word : chkF Tryd.prog Tryd.f27 c_gate_word = true := by kernel_rfl
theorem k_num_Digits : chkF Tryd.prog Tryd.f28 c_num_Digits = true := by kernel_rfl
theorem k_flotsamref25_Name : chkF Tryd.prog Tryd.f32 c_flotsamref25_Name = true := by kernel_rfl
theorem k_flotsamref01_Digits : chkF Tryd.prog Tryd.f33 c_flotsamref01_Digits = true := by kernel_rfl
theorem k_score_odd : chkF Tryd.prog Tryd.f34 c_score_odd = true := by kernel_rfl
theorem k_cell_Sum : chkF Tryd.prog Tryd.f35 c_cell_Sum = true := by kernel_rfl
theorem k_slices_ContainsFunc_api_Cell_api_Cell : chkF Tryd.prog Tryd.f36 c_slices_ContainsFunc_api_Cell_api_Cell = true := by kernel_rfl
theorem k_slices_Contains_api_Site_api_Site : chkF Tryd.prog Tryd.f37 c_slices_Contains_api_Site_api_Site = true := by kernel_rfl
theorem k_score_count_api_Cell : chkF Tryd.prog Tryd.f38 c_score_count_api_Cell = true := by kernel_rfl
theorem k_score_says : chkF Tryd.prog Tryd.f39 c_score_says = true := by kernel_rfl
theorem k_flotsamref32_cells : chkF Tryd.prog Tryd.f40 c_flotsamref32_cells = true := by kernel_rfl
theorem k_flotsamref30_Sum : chkF Tryd.prog Tryd.f41 c_flotsamref30_Sum = true := by kernel_rfl
theorem k_site_words : chkF Tryd.prog Tryd.f42 c_site_words = true := by kernel_rfl
theorem k_site_may : chkF Tryd.prog Tryd.f43 c_site_may = true := by kernel_rfl
theorem k_site_Word : chkF Tryd.prog Tryd.f44 c_site_Word = true := by kernel_rfl
theorem k_flotsamref25_may : chkF Tryd.prog Tryd.f47 c_flotsamref25_may = true := by kernel_rfl
theorem k_flotsamref25_Word : chkF Tryd.prog Tryd.f48 c_flotsamref25_Word = true := by kernel_rfl
theorem k_score_odd_1 : chkF Tryd.prog Tryd.f49 c_score_odd_1 = true := by kernel_rfl
theorem k_cell_Right : chkF Tryd.prog Tryd.f50 c_cell_Right = true := by kernel_rfl
theorem k_slices_IndexFunc_api_Cell_api_Cell : chkF Tryd.prog Tryd.f51 c_slices_IndexFunc_api_Cell_api_Cell = true := by kernel_rfl
theorem k_slices_Index_api_Site_api_Site : chkF Tryd.prog Tryd.f52 c_slices_Index_api_Site_api_Site = true := by kernel_rfl
theorem k_score_says_1 : chkF Tryd.prog Tryd.f53 c_score_says_1 = true := by kernel_rfl
theorem k_flotsamref30_Right : chkF Tryd.prog Tryd.f54 c_flotsamref30_Right = true := by kernel_rfl
theorem k_cell_witness : chkF Tryd.prog Tryd.f58 c_cell_witness = true := by kernel_rfl
theorem k_cell_limit : chkF Tryd.prog Tryd.f59 c_cell_limit = true := by kernel_rfl

set_option maxRecDepth 100000 in
theorem fits : ∀ k af, tbl k = some af → k < yBase → (∃ fn, Tryd.prog.funcs[k]? = some fn ∧ chkF Tryd.prog fn af = true) ∧ LabC tbl af.body :=
  Tab.cons (p := fun k af => k < yBase → (∃ fn, Tryd.prog.funcs[k]? = some fn ∧ chkF Tryd.prog fn af = true) ∧ LabC tbl af.body) (fun _ => ⟨⟨_, Tryd.func3, k_flotsamlaw45_GateTells⟩, (LabC.none rfl)⟩) <|
  Tab.cons (p := fun k af => k < yBase → (∃ fn, Tryd.prog.funcs[k]? = some fn ∧ chkF Tryd.prog fn af = true) ∧ LabC tbl af.body) (fun _ => ⟨⟨_, Tryd.func4, k_flotsamlaw45_GateTurns⟩, (LabC.none rfl)⟩) <|
  Tab.cons (p := fun k af => k < yBase → (∃ fn, Tryd.prog.funcs[k]? = some fn ∧ chkF Tryd.prog fn af = true) ∧ LabC tbl af.body) (fun _ => ⟨⟨_, Tryd.func5, k_flotsamlaw32_Few⟩, (LabC.none rfl)⟩) <|
  Tab.cons (p := fun k af => k < yBase → (∃ fn, Tryd.prog.funcs[k]? = some fn ∧ chkF Tryd.prog fn af = true) ∧ LabC tbl af.body) (fun _ => ⟨⟨_, Tryd.func6, k_flotsamlaw45_knows⟩, (LabC.none rfl)⟩) <|
  Tab.cons (p := fun k af => k < yBase → (∃ fn, Tryd.prog.funcs[k]? = some fn ∧ chkF Tryd.prog fn af = true) ∧ LabC tbl af.body) (fun _ => ⟨⟨_, Tryd.func7, k_gate_Compare⟩, (LabC.none rfl)⟩) <|
  Tab.cons (p := fun k af => k < yBase → (∃ fn, Tryd.prog.funcs[k]? = some fn ∧ chkF Tryd.prog fn af = true) ∧ LabC tbl af.body) (fun _ => ⟨⟨_, Tryd.func8, k_flotsamref45_Compare⟩, (LabC.none rfl)⟩) <|
  Tab.cons (p := fun k af => k < yBase → (∃ fn, Tryd.prog.funcs[k]? = some fn ∧ chkF Tryd.prog fn af = true) ∧ LabC tbl af.body) (fun _ => ⟨⟨_, Tryd.func9, k_flotsamref45_Same⟩, (LabC.none rfl)⟩) <|
  Tab.cons (p := fun k af => k < yBase → (∃ fn, Tryd.prog.funcs[k]? = some fn ∧ chkF Tryd.prog fn af = true) ∧ LabC tbl af.body) (fun _ => ⟨⟨_, Tryd.func10, k_flotsamlaw45_back⟩, (LabC.none rfl)⟩) <|
  Tab.cons (p := fun k af => k < yBase → (∃ fn, Tryd.prog.funcs[k]? = some fn ∧ chkF Tryd.prog fn af = true) ∧ LabC tbl af.body) (fun _ => ⟨⟨_, Tryd.func11, k_gate_Opens⟩, (LabC.none rfl)⟩) <|
  Tab.cons (p := fun k af => k < yBase → (∃ fn, Tryd.prog.funcs[k]? = some fn ∧ chkF Tryd.prog fn af = true) ∧ LabC tbl af.body) (fun _ => ⟨⟨_, Tryd.func12, k_flotsamref45_Opens⟩, (LabC.none rfl)⟩) <|
  Tab.cons (p := fun k af => k < yBase → (∃ fn, Tryd.prog.funcs[k]? = some fn ∧ chkF Tryd.prog fn af = true) ∧ LabC tbl af.body) (fun _ => ⟨⟨_, Tryd.func13, k_gate_Show⟩, (LabC.none rfl)⟩) <|
  Tab.cons (p := fun k af => k < yBase → (∃ fn, Tryd.prog.funcs[k]? = some fn ∧ chkF Tryd.prog fn af = true) ∧ LabC tbl af.body) (fun _ => ⟨⟨_, Tryd.func14, k_flotsamlaw45_notes⟩, (LabC.none rfl)⟩) <|
  Tab.cons (p := fun k af => k < yBase → (∃ fn, Tryd.prog.funcs[k]? = some fn ∧ chkF Tryd.prog fn af = true) ∧ LabC tbl af.body) (fun _ => ⟨⟨_, Tryd.func15, k_flotsamref45_Show⟩, (LabC.none rfl)⟩) <|
  Tab.cons (p := fun k af => k < yBase → (∃ fn, Tryd.prog.funcs[k]? = some fn ∧ chkF Tryd.prog fn af = true) ∧ LabC tbl af.body) (fun _ => ⟨⟨_, Tryd.func16, k_score_Right⟩, (LabC.none rfl)⟩) <|
  Tab.cons (p := fun k af => k < yBase → (∃ fn, Tryd.prog.funcs[k]? = some fn ∧ chkF Tryd.prog fn af = true) ∧ LabC tbl af.body) (fun _ => ⟨⟨_, Tryd.func17, k_flotsamlaw45_count⟩, (LabC.none rfl)⟩) <|
  Tab.cons (p := fun k af => k < yBase → (∃ fn, Tryd.prog.funcs[k]? = some fn ∧ chkF Tryd.prog fn af = true) ∧ LabC tbl af.body) (fun _ => ⟨⟨_, Tryd.func18, k_score_Score⟩, (LabC.none rfl)⟩) <|
  Tab.cons (p := fun k af => k < yBase → (∃ fn, Tryd.prog.funcs[k]? = some fn ∧ chkF Tryd.prog fn af = true) ∧ LabC tbl af.body) (fun _ => ⟨⟨_, Tryd.func19, k_flotsamlaw32_One⟩, (LabC.none rfl)⟩) <|
  Tab.cons (p := fun k af => k < yBase → (∃ fn, Tryd.prog.funcs[k]? = some fn ∧ chkF Tryd.prog fn af = true) ∧ LabC tbl af.body) (fun _ => ⟨⟨_, Tryd.func20, k_flotsamlaw45_other⟩, (LabC.none rfl)⟩) <|
  Tab.cons (p := fun k af => k < yBase → (∃ fn, Tryd.prog.funcs[k]? = some fn ∧ chkF Tryd.prog fn af = true) ∧ LabC tbl af.body) (fun _ => ⟨⟨_, Tryd.func21, k_gate_rows⟩, (LabC.none rfl)⟩) <|
  Tab.cons (p := fun k af => k < yBase → (∃ fn, Tryd.prog.funcs[k]? = some fn ∧ chkF Tryd.prog fn af = true) ∧ LabC tbl af.body) (fun _ => ⟨⟨_, Tryd.func22, k_gate_kind⟩, (LabC.none rfl)⟩) <|
  Tab.cons (p := fun k af => k < yBase → (∃ fn, Tryd.prog.funcs[k]? = some fn ∧ chkF Tryd.prog fn af = true) ∧ LabC tbl af.body) (fun _ => ⟨⟨_, Tryd.func23, k_flotsamref32_Right⟩, (LabC.none rfl)⟩) <|
  Tab.cons (p := fun k af => k < yBase → (∃ fn, Tryd.prog.funcs[k]? = some fn ∧ chkF Tryd.prog fn af = true) ∧ LabC tbl af.body) (fun _ => ⟨⟨_, Tryd.func24, k_flotsamref45_row⟩, (LabC.none rfl)⟩) <|
  Tab.cons (p := fun k af => k < yBase → (∃ fn, Tryd.prog.funcs[k]? = some fn ∧ chkF Tryd.prog fn af = true) ∧ LabC tbl af.body) (fun _ => ⟨⟨_, Tryd.func25, k_flotsamref45_kind⟩, (LabC.none rfl)⟩) <|
  Tab.cons (p := fun k af => k < yBase → (∃ fn, Tryd.prog.funcs[k]? = some fn ∧ chkF Tryd.prog fn af = true) ∧ LabC tbl af.body) (fun _ => ⟨⟨_, Tryd.func26, k_site_Name⟩, (LabC.none rfl)⟩) <|
  Tab.cons (p := fun k af => k < yBase → (∃ fn, Tryd.prog.funcs[k]? = some fn ∧ chkF Tryd.prog fn af = true) ∧ LabC tbl af.body) (fun _ => ⟨⟨_, Tryd.func27, k_gate_word⟩, (LabC.none rfl)⟩) <|
  Tab.cons (p := fun k af => k < yBase → (∃ fn, Tryd.prog.funcs[k]? = some fn ∧ chkF Tryd.prog fn af = true) ∧ LabC tbl af.body) (fun _ => ⟨⟨_, Tryd.func28, k_num_Digits⟩, (LabC.none rfl)⟩) <|
  Tab.cons (p := fun k af => k < yBase → (∃ fn, Tryd.prog.funcs[k]? = some fn ∧ chkF Tryd.prog fn af = true) ∧ LabC tbl af.body) (fun _ => ⟨⟨_, Tryd.func32, k_flotsamref25_Name⟩, (LabC.none rfl)⟩) <|
  Tab.cons (p := fun k af => k < yBase → (∃ fn, Tryd.prog.funcs[k]? = some fn ∧ chkF Tryd.prog fn af = true) ∧ LabC tbl af.body) (fun _ => ⟨⟨_, Tryd.func33, k_flotsamref01_Digits⟩, (LabC.none rfl)⟩) <|
  Tab.cons (p := fun k af => k < yBase → (∃ fn, Tryd.prog.funcs[k]? = some fn ∧ chkF Tryd.prog fn af = true) ∧ LabC tbl af.body) (fun _ => ⟨⟨_, Tryd.func34, k_score_odd⟩, (LabC.none rfl)⟩) <|
  Tab.cons (p := fun k af => k < yBase → (∃ fn, Tryd.prog.funcs[k]? = some fn ∧ chkF Tryd.prog fn af = true) ∧ LabC tbl af.body) (fun _ => ⟨⟨_, Tryd.func35, k_cell_Sum⟩, (LabC.none rfl)⟩) <|
  Tab.cons (p := fun k af => k < yBase → (∃ fn, Tryd.prog.funcs[k]? = some fn ∧ chkF Tryd.prog fn af = true) ∧ LabC tbl af.body) (fun _ => ⟨⟨_, Tryd.func36, k_slices_ContainsFunc_api_Cell_api_Cell⟩, (LabC.none rfl)⟩) <|
  Tab.cons (p := fun k af => k < yBase → (∃ fn, Tryd.prog.funcs[k]? = some fn ∧ chkF Tryd.prog fn af = true) ∧ LabC tbl af.body) (fun _ => ⟨⟨_, Tryd.func37, k_slices_Contains_api_Site_api_Site⟩, (LabC.none rfl)⟩) <|
  Tab.cons (p := fun k af => k < yBase → (∃ fn, Tryd.prog.funcs[k]? = some fn ∧ chkF Tryd.prog fn af = true) ∧ LabC tbl af.body) (fun _ => ⟨⟨_, Tryd.func38, k_score_count_api_Cell⟩, (LabC.none rfl)⟩) <|
  Tab.cons (p := fun k af => k < yBase → (∃ fn, Tryd.prog.funcs[k]? = some fn ∧ chkF Tryd.prog fn af = true) ∧ LabC tbl af.body) (fun _ => ⟨⟨_, Tryd.func39, k_score_says⟩, (LabC.none rfl)⟩) <|
  Tab.cons (p := fun k af => k < yBase → (∃ fn, Tryd.prog.funcs[k]? = some fn ∧ chkF Tryd.prog fn af = true) ∧ LabC tbl af.body) (fun _ => ⟨⟨_, Tryd.func40, k_flotsamref32_cells⟩, (LabC.none rfl)⟩) <|
  Tab.cons (p := fun k af => k < yBase → (∃ fn, Tryd.prog.funcs[k]? = some fn ∧ chkF Tryd.prog fn af = true) ∧ LabC tbl af.body) (fun _ => ⟨⟨_, Tryd.func41, k_flotsamref30_Sum⟩, (LabC.none rfl)⟩) <|
  Tab.cons (p := fun k af => k < yBase → (∃ fn, Tryd.prog.funcs[k]? = some fn ∧ chkF Tryd.prog fn af = true) ∧ LabC tbl af.body) (fun _ => ⟨⟨_, Tryd.func42, k_site_words⟩, (LabC.none rfl)⟩) <|
  Tab.cons (p := fun k af => k < yBase → (∃ fn, Tryd.prog.funcs[k]? = some fn ∧ chkF Tryd.prog fn af = true) ∧ LabC tbl af.body) (fun _ => ⟨⟨_, Tryd.func43, k_site_may⟩, (LabC.none rfl)⟩) <|
  Tab.cons (p := fun k af => k < yBase → (∃ fn, Tryd.prog.funcs[k]? = some fn ∧ chkF Tryd.prog fn af = true) ∧ LabC tbl af.body) (fun _ => ⟨⟨_, Tryd.func44, k_site_Word⟩, (LabC.none rfl)⟩) <|
  Tab.cons (p := fun k af => k < yBase → (∃ fn, Tryd.prog.funcs[k]? = some fn ∧ chkF Tryd.prog fn af = true) ∧ LabC tbl af.body) (fun _ => ⟨⟨_, Tryd.func47, k_flotsamref25_may⟩, (LabC.none rfl)⟩) <|
  Tab.cons (p := fun k af => k < yBase → (∃ fn, Tryd.prog.funcs[k]? = some fn ∧ chkF Tryd.prog fn af = true) ∧ LabC tbl af.body) (fun _ => ⟨⟨_, Tryd.func48, k_flotsamref25_Word⟩, (LabC.none rfl)⟩) <|
  Tab.cons (p := fun k af => k < yBase → (∃ fn, Tryd.prog.funcs[k]? = some fn ∧ chkF Tryd.prog fn af = true) ∧ LabC tbl af.body) (fun _ => ⟨⟨_, Tryd.func49, k_score_odd_1⟩, (LabC.none rfl)⟩) <|
  Tab.cons (p := fun k af => k < yBase → (∃ fn, Tryd.prog.funcs[k]? = some fn ∧ chkF Tryd.prog fn af = true) ∧ LabC tbl af.body) (fun _ => ⟨⟨_, Tryd.func50, k_cell_Right⟩, (LabC.none rfl)⟩) <|
  Tab.cons (p := fun k af => k < yBase → (∃ fn, Tryd.prog.funcs[k]? = some fn ∧ chkF Tryd.prog fn af = true) ∧ LabC tbl af.body) (fun _ => ⟨⟨_, Tryd.func51, k_slices_IndexFunc_api_Cell_api_Cell⟩, (LabC.none rfl)⟩) <|
  Tab.cons (p := fun k af => k < yBase → (∃ fn, Tryd.prog.funcs[k]? = some fn ∧ chkF Tryd.prog fn af = true) ∧ LabC tbl af.body) (fun _ => ⟨⟨_, Tryd.func52, k_slices_Index_api_Site_api_Site⟩, (LabC.none rfl)⟩) <|
  Tab.cons (p := fun k af => k < yBase → (∃ fn, Tryd.prog.funcs[k]? = some fn ∧ chkF Tryd.prog fn af = true) ∧ LabC tbl af.body) (fun _ => ⟨⟨_, Tryd.func53, k_score_says_1⟩, (LabC.none rfl)⟩) <|
  Tab.cons (p := fun k af => k < yBase → (∃ fn, Tryd.prog.funcs[k]? = some fn ∧ chkF Tryd.prog fn af = true) ∧ LabC tbl af.body) (fun _ => ⟨⟨_, Tryd.func54, k_flotsamref30_Right⟩, (LabC.none rfl)⟩) <|
  Tab.cons (p := fun k af => k < yBase → (∃ fn, Tryd.prog.funcs[k]? = some fn ∧ chkF Tryd.prog fn af = true) ∧ LabC tbl af.body) (fun _ => ⟨⟨_, Tryd.func58, k_cell_witness⟩, (LabC.none rfl)⟩) <|
  Tab.cons (p := fun k af => k < yBase → (∃ fn, Tryd.prog.funcs[k]? = some fn ∧ chkF Tryd.prog fn af = true) ∧ LabC tbl af.body) (fun _ => ⟨⟨_, Tryd.func59, k_cell_limit⟩, (LabC.none rfl)⟩) <|
  Tab.nil

end Go.Proofs.YtpjogbpjjbbinaaDoor
