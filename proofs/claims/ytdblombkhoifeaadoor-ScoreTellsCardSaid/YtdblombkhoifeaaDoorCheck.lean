/-
  The abstract code of each function fits the loaded function; printed by a program (gen.py).
-/
import Derived.Test.YtdblombkhoifeaaDoorCode
import Derived.Test.YtdblombkhoifeaaDoorRun
import Derived.Test.YtdblombkhoifeaaDoorChecked
namespace Go.Proofs.YtdblombkhoifeaaDoor
open Go.AM

theorem k_flotsamlaw32_ScoreTells : chkF Tryd.prog Tryd.f3 c_flotsamlaw32_ScoreTells = true := by kernel_rfl
theorem k_flotsamlaw32_Few : chkF Tryd.prog Tryd.f9 c_flotsamlaw32_Few = true := by kernel_rfl
theorem k_flotsamlaw32_knows : chkF Tryd.prog Tryd.f10 c_flotsamlaw32_knows = true := by kernel_rfl
theorem k_score_Score : chkF Tryd.prog Tryd.f11 c_score_Score = true := by kernel_rfl
theorem k_flotsamref32_Score : chkF Tryd.prog Tryd.f12 c_flotsamref32_Score = true := by kernel_rfl
theorem k_score_Mutants : chkF Tryd.prog Tryd.f13 c_score_Mutants = true := by kernel_rfl
theorem k_flotsamref32_Mutants : chkF Tryd.prog Tryd.f14 c_flotsamref32_Mutants = true := by kernel_rfl
theorem k_score_Right : chkF Tryd.prog Tryd.f15 c_score_Right = true := by kernel_rfl
theorem k_flotsamref32_Right : chkF Tryd.prog Tryd.f16 c_flotsamref32_Right = true := by kernel_rfl
theorem k_flotsamlaw04_Ints : chkF Tryd.prog Tryd.f17 c_flotsamlaw04_Ints = true := by kernel_rfl
theorem k_score_Oracles : chkF Tryd.prog Tryd.f18 c_score_Oracles = true := by kernel_rfl
theorem k_flotsamref32_Oracles : chkF Tryd.prog Tryd.f19 c_flotsamref32_Oracles = true := by kernel_rfl
theorem k_score_Needed : chkF Tryd.prog Tryd.f20 c_score_Needed = true := by kernel_rfl
theorem k_flotsamref32_Needed : chkF Tryd.prog Tryd.f21 c_flotsamref32_Needed = true := by kernel_rfl
theorem k_flotsamlaw32_One : chkF Tryd.prog Tryd.f51 c_flotsamlaw32_One = true := by kernel_rfl
theorem k_score_count_api_Cell : chkF Tryd.prog Tryd.f52 c_score_count_api_Cell = true := by kernel_rfl
theorem k_score_says : chkF Tryd.prog Tryd.f53 c_score_says = true := by kernel_rfl
theorem k_score_Mutants_1 : chkF Tryd.prog Tryd.f54 c_score_Mutants_1 = true := by kernel_rfl
theorem k_score_count_api_Cell_x : chkF Tryd.prog Tryd.f55 c_score_count_api_Cell_x = true := by kernel_rfl
theorem k_score_Mutants_1_1 : chkF Tryd.prog Tryd.f56 c_score_Mutants_1_1 = true := by kernel_rfl
theorem k_cell_Sum : chkF Tryd.prog Tryd.f57 c_cell_Sum = true := by kernel_rfl
theorem k_flotsamref30_Sum : chkF Tryd.prog Tryd.f58 c_flotsamref30_Sum = true := by kernel_rfl
theorem k_score_odd : chkF Tryd.prog Tryd.f59 c_score_odd = true := by kernel_rfl
theorem k_slices_ContainsFunc_api_Cell_api_Cell : chkF Tryd.prog Tryd.f60 c_slices_ContainsFunc_api_Cell_api_Cell = true := by kernel_rfl
theorem k_site_Name : chkF Tryd.prog Tryd.f61 c_site_Name = true := by kernel_rfl
theorem k_slices_Contains_api_Site_api_Site : chkF Tryd.prog Tryd.f62 c_slices_Contains_api_Site_api_Site = true := by kernel_rfl
theorem k_flotsamref32_cells : chkF Tryd.prog Tryd.f63 c_flotsamref32_cells = true := by kernel_rfl
theorem k_flotsamref25_Name : chkF Tryd.prog Tryd.f64 c_flotsamref25_Name = true := by kernel_rfl
theorem k_score_kills : chkF Tryd.prog Tryd.f65 c_score_kills = true := by kernel_rfl
theorem k_flotsamref32_kills : chkF Tryd.prog Tryd.f66 c_flotsamref32_kills = true := by kernel_rfl
theorem k_score_Needed_1 : chkF Tryd.prog Tryd.f67 c_score_Needed_1 = true := by kernel_rfl
theorem k_num_Digits : chkF Tryd.prog Tryd.f100 c_num_Digits = true := by kernel_rfl
theorem k_flotsamref01_Digits : chkF Tryd.prog Tryd.f104 c_flotsamref01_Digits = true := by kernel_rfl
theorem k_score_says_1 : chkF Tryd.prog Tryd.f105 c_score_says_1 = true := by kernel_rfl
theorem k_score_odd_1 : chkF Tryd.prog Tryd.f106 c_score_odd_1 = true := by kernel_rfl
theorem k_cell_Right : chkF Tryd.prog Tryd.f107 c_cell_Right = true := by kernel_rfl
theorem k_slices_IndexFunc_api_Cell_api_Cell : chkF Tryd.prog Tryd.f108 c_slices_IndexFunc_api_Cell_api_Cell = true := by kernel_rfl
theorem k_site_words : chkF Tryd.prog Tryd.f109 c_site_words = true := by kernel_rfl
theorem k_site_may : chkF Tryd.prog Tryd.f110 c_site_may = true := by kernel_rfl
theorem k_site_Word : chkF Tryd.prog Tryd.f111 c_site_Word = true := by kernel_rfl
theorem k_slices_Index_api_Site_api_Site : chkF Tryd.prog Tryd.f112 c_slices_Index_api_Site_api_Site = true := by kernel_rfl
theorem k_flotsamref30_Right : chkF Tryd.prog Tryd.f113 c_flotsamref30_Right = true := by kernel_rfl
theorem k_flotsamref25_may : chkF Tryd.prog Tryd.f114 c_flotsamref25_may = true := by kernel_rfl
theorem k_flotsamref25_Word : chkF Tryd.prog Tryd.f115 c_flotsamref25_Word = true := by kernel_rfl
theorem k_score_kills_1 : chkF Tryd.prog Tryd.f116 c_score_kills_1 = true := by kernel_rfl
theorem k_cell_witness : chkF Tryd.prog Tryd.f142 c_cell_witness = true := by kernel_rfl
theorem k_cell_limit : chkF Tryd.prog Tryd.f143 c_cell_limit = true := by kernel_rfl

set_option maxRecDepth 100000 in
theorem fits : ∀ k af, tbl k = some af → k < yBase → (∃ fn, Tryd.prog.funcs[k]? = some fn ∧ chkF Tryd.prog fn af = true) ∧ LabC tbl af.body :=
  Tab.cons (p := fun k af => k < yBase → (∃ fn, Tryd.prog.funcs[k]? = some fn ∧ chkF Tryd.prog fn af = true) ∧ LabC tbl af.body) (fun _ => ⟨⟨_, Tryd.func3, k_flotsamlaw32_ScoreTells⟩, (LabC.none rfl)⟩) <|
  Tab.cons (p := fun k af => k < yBase → (∃ fn, Tryd.prog.funcs[k]? = some fn ∧ chkF Tryd.prog fn af = true) ∧ LabC tbl af.body) (fun _ => ⟨⟨_, Tryd.func9, k_flotsamlaw32_Few⟩, (LabC.none rfl)⟩) <|
  Tab.cons (p := fun k af => k < yBase → (∃ fn, Tryd.prog.funcs[k]? = some fn ∧ chkF Tryd.prog fn af = true) ∧ LabC tbl af.body) (fun _ => ⟨⟨_, Tryd.func10, k_flotsamlaw32_knows⟩, (LabC.none rfl)⟩) <|
  Tab.cons (p := fun k af => k < yBase → (∃ fn, Tryd.prog.funcs[k]? = some fn ∧ chkF Tryd.prog fn af = true) ∧ LabC tbl af.body) (fun _ => ⟨⟨_, Tryd.func11, k_score_Score⟩, (LabC.none rfl)⟩) <|
  Tab.cons (p := fun k af => k < yBase → (∃ fn, Tryd.prog.funcs[k]? = some fn ∧ chkF Tryd.prog fn af = true) ∧ LabC tbl af.body) (fun _ => ⟨⟨_, Tryd.func12, k_flotsamref32_Score⟩, (LabC.none rfl)⟩) <|
  Tab.cons (p := fun k af => k < yBase → (∃ fn, Tryd.prog.funcs[k]? = some fn ∧ chkF Tryd.prog fn af = true) ∧ LabC tbl af.body) (fun _ => ⟨⟨_, Tryd.func13, k_score_Mutants⟩, (LabC.none rfl)⟩) <|
  Tab.cons (p := fun k af => k < yBase → (∃ fn, Tryd.prog.funcs[k]? = some fn ∧ chkF Tryd.prog fn af = true) ∧ LabC tbl af.body) (fun _ => ⟨⟨_, Tryd.func14, k_flotsamref32_Mutants⟩, (LabC.none rfl)⟩) <|
  Tab.cons (p := fun k af => k < yBase → (∃ fn, Tryd.prog.funcs[k]? = some fn ∧ chkF Tryd.prog fn af = true) ∧ LabC tbl af.body) (fun _ => ⟨⟨_, Tryd.func15, k_score_Right⟩, (LabC.none rfl)⟩) <|
  Tab.cons (p := fun k af => k < yBase → (∃ fn, Tryd.prog.funcs[k]? = some fn ∧ chkF Tryd.prog fn af = true) ∧ LabC tbl af.body) (fun _ => ⟨⟨_, Tryd.func16, k_flotsamref32_Right⟩, (LabC.none rfl)⟩) <|
  Tab.cons (p := fun k af => k < yBase → (∃ fn, Tryd.prog.funcs[k]? = some fn ∧ chkF Tryd.prog fn af = true) ∧ LabC tbl af.body) (fun _ => ⟨⟨_, Tryd.func17, k_flotsamlaw04_Ints⟩, (LabC.none rfl)⟩) <|
  Tab.cons (p := fun k af => k < yBase → (∃ fn, Tryd.prog.funcs[k]? = some fn ∧ chkF Tryd.prog fn af = true) ∧ LabC tbl af.body) (fun _ => ⟨⟨_, Tryd.func18, k_score_Oracles⟩, (LabC.none rfl)⟩) <|
  Tab.cons (p := fun k af => k < yBase → (∃ fn, Tryd.prog.funcs[k]? = some fn ∧ chkF Tryd.prog fn af = true) ∧ LabC tbl af.body) (fun _ => ⟨⟨_, Tryd.func19, k_flotsamref32_Oracles⟩, (LabC.none rfl)⟩) <|
  Tab.cons (p := fun k af => k < yBase → (∃ fn, Tryd.prog.funcs[k]? = some fn ∧ chkF Tryd.prog fn af = true) ∧ LabC tbl af.body) (fun _ => ⟨⟨_, Tryd.func20, k_score_Needed⟩, (LabC.none rfl)⟩) <|
  Tab.cons (p := fun k af => k < yBase → (∃ fn, Tryd.prog.funcs[k]? = some fn ∧ chkF Tryd.prog fn af = true) ∧ LabC tbl af.body) (fun _ => ⟨⟨_, Tryd.func21, k_flotsamref32_Needed⟩, (LabC.none rfl)⟩) <|
  Tab.cons (p := fun k af => k < yBase → (∃ fn, Tryd.prog.funcs[k]? = some fn ∧ chkF Tryd.prog fn af = true) ∧ LabC tbl af.body) (fun _ => ⟨⟨_, Tryd.func51, k_flotsamlaw32_One⟩, (LabC.none rfl)⟩) <|
  Tab.cons (p := fun k af => k < yBase → (∃ fn, Tryd.prog.funcs[k]? = some fn ∧ chkF Tryd.prog fn af = true) ∧ LabC tbl af.body) (fun _ => ⟨⟨_, Tryd.func52, k_score_count_api_Cell⟩, (LabC.none rfl)⟩) <|
  Tab.cons (p := fun k af => k < yBase → (∃ fn, Tryd.prog.funcs[k]? = some fn ∧ chkF Tryd.prog fn af = true) ∧ LabC tbl af.body) (fun _ => ⟨⟨_, Tryd.func53, k_score_says⟩, (LabC.none rfl)⟩) <|
  Tab.cons (p := fun k af => k < yBase → (∃ fn, Tryd.prog.funcs[k]? = some fn ∧ chkF Tryd.prog fn af = true) ∧ LabC tbl af.body) (fun _ => ⟨⟨_, Tryd.func54, k_score_Mutants_1⟩, (LabC.none rfl)⟩) <|
  Tab.cons (p := fun k af => k < yBase → (∃ fn, Tryd.prog.funcs[k]? = some fn ∧ chkF Tryd.prog fn af = true) ∧ LabC tbl af.body) (fun _ => ⟨⟨_, Tryd.func55, k_score_count_api_Cell_x⟩, (LabC.none rfl)⟩) <|
  Tab.cons (p := fun k af => k < yBase → (∃ fn, Tryd.prog.funcs[k]? = some fn ∧ chkF Tryd.prog fn af = true) ∧ LabC tbl af.body) (fun _ => ⟨⟨_, Tryd.func56, k_score_Mutants_1_1⟩, (LabC.none rfl)⟩) <|
  Tab.cons (p := fun k af => k < yBase → (∃ fn, Tryd.prog.funcs[k]? = some fn ∧ chkF Tryd.prog fn af = true) ∧ LabC tbl af.body) (fun _ => ⟨⟨_, Tryd.func57, k_cell_Sum⟩, (LabC.none rfl)⟩) <|
  Tab.cons (p := fun k af => k < yBase → (∃ fn, Tryd.prog.funcs[k]? = some fn ∧ chkF Tryd.prog fn af = true) ∧ LabC tbl af.body) (fun _ => ⟨⟨_, Tryd.func58, k_flotsamref30_Sum⟩, (LabC.none rfl)⟩) <|
  Tab.cons (p := fun k af => k < yBase → (∃ fn, Tryd.prog.funcs[k]? = some fn ∧ chkF Tryd.prog fn af = true) ∧ LabC tbl af.body) (fun _ => ⟨⟨_, Tryd.func59, k_score_odd⟩, (LabC.none rfl)⟩) <|
  Tab.cons (p := fun k af => k < yBase → (∃ fn, Tryd.prog.funcs[k]? = some fn ∧ chkF Tryd.prog fn af = true) ∧ LabC tbl af.body) (fun _ => ⟨⟨_, Tryd.func60, k_slices_ContainsFunc_api_Cell_api_Cell⟩, (LabC.none rfl)⟩) <|
  Tab.cons (p := fun k af => k < yBase → (∃ fn, Tryd.prog.funcs[k]? = some fn ∧ chkF Tryd.prog fn af = true) ∧ LabC tbl af.body) (fun _ => ⟨⟨_, Tryd.func61, k_site_Name⟩, (LabC.none rfl)⟩) <|
  Tab.cons (p := fun k af => k < yBase → (∃ fn, Tryd.prog.funcs[k]? = some fn ∧ chkF Tryd.prog fn af = true) ∧ LabC tbl af.body) (fun _ => ⟨⟨_, Tryd.func62, k_slices_Contains_api_Site_api_Site⟩, (LabC.none rfl)⟩) <|
  Tab.cons (p := fun k af => k < yBase → (∃ fn, Tryd.prog.funcs[k]? = some fn ∧ chkF Tryd.prog fn af = true) ∧ LabC tbl af.body) (fun _ => ⟨⟨_, Tryd.func63, k_flotsamref32_cells⟩, (LabC.none rfl)⟩) <|
  Tab.cons (p := fun k af => k < yBase → (∃ fn, Tryd.prog.funcs[k]? = some fn ∧ chkF Tryd.prog fn af = true) ∧ LabC tbl af.body) (fun _ => ⟨⟨_, Tryd.func64, k_flotsamref25_Name⟩, (LabC.none rfl)⟩) <|
  Tab.cons (p := fun k af => k < yBase → (∃ fn, Tryd.prog.funcs[k]? = some fn ∧ chkF Tryd.prog fn af = true) ∧ LabC tbl af.body) (fun _ => ⟨⟨_, Tryd.func65, k_score_kills⟩, (LabC.none rfl)⟩) <|
  Tab.cons (p := fun k af => k < yBase → (∃ fn, Tryd.prog.funcs[k]? = some fn ∧ chkF Tryd.prog fn af = true) ∧ LabC tbl af.body) (fun _ => ⟨⟨_, Tryd.func66, k_flotsamref32_kills⟩, (LabC.none rfl)⟩) <|
  Tab.cons (p := fun k af => k < yBase → (∃ fn, Tryd.prog.funcs[k]? = some fn ∧ chkF Tryd.prog fn af = true) ∧ LabC tbl af.body) (fun _ => ⟨⟨_, Tryd.func67, k_score_Needed_1⟩, (LabC.none rfl)⟩) <|
  Tab.cons (p := fun k af => k < yBase → (∃ fn, Tryd.prog.funcs[k]? = some fn ∧ chkF Tryd.prog fn af = true) ∧ LabC tbl af.body) (fun _ => ⟨⟨_, Tryd.func100, k_num_Digits⟩, (LabC.none rfl)⟩) <|
  Tab.cons (p := fun k af => k < yBase → (∃ fn, Tryd.prog.funcs[k]? = some fn ∧ chkF Tryd.prog fn af = true) ∧ LabC tbl af.body) (fun _ => ⟨⟨_, Tryd.func104, k_flotsamref01_Digits⟩, (LabC.none rfl)⟩) <|
  Tab.cons (p := fun k af => k < yBase → (∃ fn, Tryd.prog.funcs[k]? = some fn ∧ chkF Tryd.prog fn af = true) ∧ LabC tbl af.body) (fun _ => ⟨⟨_, Tryd.func105, k_score_says_1⟩, (LabC.none rfl)⟩) <|
  Tab.cons (p := fun k af => k < yBase → (∃ fn, Tryd.prog.funcs[k]? = some fn ∧ chkF Tryd.prog fn af = true) ∧ LabC tbl af.body) (fun _ => ⟨⟨_, Tryd.func106, k_score_odd_1⟩, (LabC.none rfl)⟩) <|
  Tab.cons (p := fun k af => k < yBase → (∃ fn, Tryd.prog.funcs[k]? = some fn ∧ chkF Tryd.prog fn af = true) ∧ LabC tbl af.body) (fun _ => ⟨⟨_, Tryd.func107, k_cell_Right⟩, (LabC.none rfl)⟩) <|
  Tab.cons (p := fun k af => k < yBase → (∃ fn, Tryd.prog.funcs[k]? = some fn ∧ chkF Tryd.prog fn af = true) ∧ LabC tbl af.body) (fun _ => ⟨⟨_, Tryd.func108, k_slices_IndexFunc_api_Cell_api_Cell⟩, (LabC.none rfl)⟩) <|
  Tab.cons (p := fun k af => k < yBase → (∃ fn, Tryd.prog.funcs[k]? = some fn ∧ chkF Tryd.prog fn af = true) ∧ LabC tbl af.body) (fun _ => ⟨⟨_, Tryd.func109, k_site_words⟩, (LabC.none rfl)⟩) <|
  Tab.cons (p := fun k af => k < yBase → (∃ fn, Tryd.prog.funcs[k]? = some fn ∧ chkF Tryd.prog fn af = true) ∧ LabC tbl af.body) (fun _ => ⟨⟨_, Tryd.func110, k_site_may⟩, (LabC.none rfl)⟩) <|
  Tab.cons (p := fun k af => k < yBase → (∃ fn, Tryd.prog.funcs[k]? = some fn ∧ chkF Tryd.prog fn af = true) ∧ LabC tbl af.body) (fun _ => ⟨⟨_, Tryd.func111, k_site_Word⟩, (LabC.none rfl)⟩) <|
  Tab.cons (p := fun k af => k < yBase → (∃ fn, Tryd.prog.funcs[k]? = some fn ∧ chkF Tryd.prog fn af = true) ∧ LabC tbl af.body) (fun _ => ⟨⟨_, Tryd.func112, k_slices_Index_api_Site_api_Site⟩, (LabC.none rfl)⟩) <|
  Tab.cons (p := fun k af => k < yBase → (∃ fn, Tryd.prog.funcs[k]? = some fn ∧ chkF Tryd.prog fn af = true) ∧ LabC tbl af.body) (fun _ => ⟨⟨_, Tryd.func113, k_flotsamref30_Right⟩, (LabC.none rfl)⟩) <|
  Tab.cons (p := fun k af => k < yBase → (∃ fn, Tryd.prog.funcs[k]? = some fn ∧ chkF Tryd.prog fn af = true) ∧ LabC tbl af.body) (fun _ => ⟨⟨_, Tryd.func114, k_flotsamref25_may⟩, (LabC.none rfl)⟩) <|
  Tab.cons (p := fun k af => k < yBase → (∃ fn, Tryd.prog.funcs[k]? = some fn ∧ chkF Tryd.prog fn af = true) ∧ LabC tbl af.body) (fun _ => ⟨⟨_, Tryd.func115, k_flotsamref25_Word⟩, (LabC.none rfl)⟩) <|
  Tab.cons (p := fun k af => k < yBase → (∃ fn, Tryd.prog.funcs[k]? = some fn ∧ chkF Tryd.prog fn af = true) ∧ LabC tbl af.body) (fun _ => ⟨⟨_, Tryd.func116, k_score_kills_1⟩, (LabC.none rfl)⟩) <|
  Tab.cons (p := fun k af => k < yBase → (∃ fn, Tryd.prog.funcs[k]? = some fn ∧ chkF Tryd.prog fn af = true) ∧ LabC tbl af.body) (fun _ => ⟨⟨_, Tryd.func142, k_cell_witness⟩, (LabC.none rfl)⟩) <|
  Tab.cons (p := fun k af => k < yBase → (∃ fn, Tryd.prog.funcs[k]? = some fn ∧ chkF Tryd.prog fn af = true) ∧ LabC tbl af.body) (fun _ => ⟨⟨_, Tryd.func143, k_cell_limit⟩, (LabC.none rfl)⟩) <|
  Tab.nil

end Go.Proofs.YtdblombkhoifeaaDoor
