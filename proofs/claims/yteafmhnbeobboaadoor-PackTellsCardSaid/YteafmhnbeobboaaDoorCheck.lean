/-
  The abstract code of each function fits the loaded function; printed by a program (gen.py).
-/
import Derived.Test.YteafmhnbeobboaaDoorCode
import Derived.Test.YteafmhnbeobboaaDoorRun
import Derived.Test.YteafmhnbeobboaaDoorChecked
namespace Go.Proofs.YteafmhnbeobboaaDoor
open Go.AM

theorem k_flotsamlaw34_PackTells : chkF Tryd.prog Tryd.f3 c_flotsamlaw34_PackTells = true := by kernel_rfl
theorem k_flotsamlaw34_PackBack : chkF Tryd.prog Tryd.f4 c_flotsamlaw34_PackBack = true := by kernel_rfl
theorem k_flotsamlaw32_Few : chkF Tryd.prog Tryd.f5 c_flotsamlaw32_Few = true := by kernel_rfl
theorem k_flotsamlaw34_knows : chkF Tryd.prog Tryd.f6 c_flotsamlaw34_knows = true := by kernel_rfl
theorem k_pack_Encode : chkF Tryd.prog Tryd.f7 c_pack_Encode = true := by kernel_rfl
theorem k_flotsamref34_Encode : chkF Tryd.prog Tryd.f8 c_flotsamref34_Encode = true := by kernel_rfl
theorem k_pack_Decode : chkF Tryd.prog Tryd.f9 c_pack_Decode = true := by kernel_rfl
theorem k_flotsamref34_Decode : chkF Tryd.prog Tryd.f10 c_flotsamref34_Decode = true := by kernel_rfl
theorem k_flotsamref31_Same : chkF Tryd.prog Tryd.f11 c_flotsamref31_Same = true := by kernel_rfl
theorem k_pack_Sum : chkF Tryd.prog Tryd.f12 c_pack_Sum = true := by kernel_rfl
theorem k_flotsamref34_Sum : chkF Tryd.prog Tryd.f13 c_flotsamref34_Sum = true := by kernel_rfl
theorem k_score_Right : chkF Tryd.prog Tryd.f14 c_score_Right = true := by kernel_rfl
theorem k_flotsamlaw32_One : chkF Tryd.prog Tryd.f15 c_flotsamlaw32_One = true := by kernel_rfl
theorem k_ppack_writer_put : chkF Tryd.prog Tryd.f16 c_ppack_writer_put = true := by kernel_rfl
theorem k_ppack_writer_cells : chkF Tryd.prog Tryd.f17 c_ppack_writer_cells = true := by kernel_rfl
theorem k_pack_seal : chkF Tryd.prog Tryd.f18 c_pack_seal = true := by kernel_rfl
theorem k_flotsamref32_Right : chkF Tryd.prog Tryd.f19 c_flotsamref32_Right = true := by kernel_rfl
theorem k_flotsamref34_put : chkF Tryd.prog Tryd.f20 c_flotsamref34_put = true := by kernel_rfl
theorem k_flotsamref34_cells : chkF Tryd.prog Tryd.f21 c_flotsamref34_cells = true := by kernel_rfl
theorem k_bytes_Equal : chkF Tryd.prog Tryd.f22 c_bytes_Equal = true := by kernel_rfl
theorem k_ppack_left_number : chkF Tryd.prog Tryd.f23 c_ppack_left_number = true := by kernel_rfl
theorem k_ppack_reader_cells : chkF Tryd.prog Tryd.f24 c_ppack_reader_cells = true := by kernel_rfl
theorem k_ppack_reader_site : chkF Tryd.prog Tryd.f25 c_ppack_reader_site = true := by kernel_rfl
theorem k_pflotsamref34_bytes_take : chkF Tryd.prog Tryd.f26 c_pflotsamref34_bytes_take = true := by kernel_rfl
theorem k_pflotsamref34_bytes_cells : chkF Tryd.prog Tryd.f27 c_pflotsamref34_bytes_cells = true := by kernel_rfl
theorem k_flotsamref30_Same : chkF Tryd.prog Tryd.f28 c_flotsamref30_Same = true := by kernel_rfl
theorem k_score_odd : chkF Tryd.prog Tryd.f29 c_score_odd = true := by kernel_rfl
theorem k_cell_Sum : chkF Tryd.prog Tryd.f30 c_cell_Sum = true := by kernel_rfl
theorem k_slices_ContainsFunc_api_Cell_api_Cell : chkF Tryd.prog Tryd.f31 c_slices_ContainsFunc_api_Cell_api_Cell = true := by kernel_rfl
theorem k_site_Name : chkF Tryd.prog Tryd.f32 c_site_Name = true := by kernel_rfl
theorem k_slices_Contains_api_Site_api_Site : chkF Tryd.prog Tryd.f33 c_slices_Contains_api_Site_api_Site = true := by kernel_rfl
theorem k_codec_Uint : chkF Tryd.prog Tryd.f34 c_codec_Uint = true := by kernel_rfl
theorem k_flotsamref32_cells : chkF Tryd.prog Tryd.f35 c_flotsamref32_cells = true := by kernel_rfl
theorem k_flotsamref30_Sum : chkF Tryd.prog Tryd.f36 c_flotsamref30_Sum = true := by kernel_rfl
theorem k_flotsamref25_Name : chkF Tryd.prog Tryd.f37 c_flotsamref25_Name = true := by kernel_rfl
theorem k_flotsamref03_Uint : chkF Tryd.prog Tryd.f38 c_flotsamref03_Uint = true := by kernel_rfl
theorem k_codec_TakeUint : chkF Tryd.prog Tryd.f39 c_codec_TakeUint = true := by kernel_rfl
theorem k_ppack_reader_cell : chkF Tryd.prog Tryd.f40 c_ppack_reader_cell = true := by kernel_rfl
theorem k_flotsamref03_TakeUint : chkF Tryd.prog Tryd.f41 c_flotsamref03_TakeUint = true := by kernel_rfl
theorem k_score_odd_1 : chkF Tryd.prog Tryd.f42 c_score_odd_1 = true := by kernel_rfl
theorem k_score_count_api_Cell : chkF Tryd.prog Tryd.f43 c_score_count_api_Cell = true := by kernel_rfl
theorem k_cell_Right : chkF Tryd.prog Tryd.f44 c_cell_Right = true := by kernel_rfl
theorem k_slices_IndexFunc_api_Cell_api_Cell : chkF Tryd.prog Tryd.f45 c_slices_IndexFunc_api_Cell_api_Cell = true := by kernel_rfl
theorem k_site_words : chkF Tryd.prog Tryd.f46 c_site_words = true := by kernel_rfl
theorem k_site_may : chkF Tryd.prog Tryd.f47 c_site_may = true := by kernel_rfl
theorem k_site_Word : chkF Tryd.prog Tryd.f48 c_site_Word = true := by kernel_rfl
theorem k_num_Digits : chkF Tryd.prog Tryd.f49 c_num_Digits = true := by kernel_rfl
theorem k_slices_Index_api_Site_api_Site : chkF Tryd.prog Tryd.f51 c_slices_Index_api_Site_api_Site = true := by kernel_rfl
theorem k_flotsamref30_Right : chkF Tryd.prog Tryd.f53 c_flotsamref30_Right = true := by kernel_rfl
theorem k_flotsamref25_may : chkF Tryd.prog Tryd.f54 c_flotsamref25_may = true := by kernel_rfl
theorem k_flotsamref25_Word : chkF Tryd.prog Tryd.f55 c_flotsamref25_Word = true := by kernel_rfl
theorem k_flotsamref01_Digits : chkF Tryd.prog Tryd.f56 c_flotsamref01_Digits = true := by kernel_rfl
theorem k_cell_witness : chkF Tryd.prog Tryd.f58 c_cell_witness = true := by kernel_rfl
theorem k_cell_limit : chkF Tryd.prog Tryd.f59 c_cell_limit = true := by kernel_rfl

set_option maxRecDepth 100000 in
theorem fits : ∀ k af, tbl k = some af → k < yBase → (∃ fn, Tryd.prog.funcs[k]? = some fn ∧ chkF Tryd.prog fn af = true) ∧ LabC tbl af.body :=
  Tab.cons (p := fun k af => k < yBase → (∃ fn, Tryd.prog.funcs[k]? = some fn ∧ chkF Tryd.prog fn af = true) ∧ LabC tbl af.body) (fun _ => ⟨⟨_, Tryd.func3, k_flotsamlaw34_PackTells⟩, (LabC.none rfl)⟩) <|
  Tab.cons (p := fun k af => k < yBase → (∃ fn, Tryd.prog.funcs[k]? = some fn ∧ chkF Tryd.prog fn af = true) ∧ LabC tbl af.body) (fun _ => ⟨⟨_, Tryd.func4, k_flotsamlaw34_PackBack⟩, (LabC.none rfl)⟩) <|
  Tab.cons (p := fun k af => k < yBase → (∃ fn, Tryd.prog.funcs[k]? = some fn ∧ chkF Tryd.prog fn af = true) ∧ LabC tbl af.body) (fun _ => ⟨⟨_, Tryd.func5, k_flotsamlaw32_Few⟩, (LabC.none rfl)⟩) <|
  Tab.cons (p := fun k af => k < yBase → (∃ fn, Tryd.prog.funcs[k]? = some fn ∧ chkF Tryd.prog fn af = true) ∧ LabC tbl af.body) (fun _ => ⟨⟨_, Tryd.func6, k_flotsamlaw34_knows⟩, (LabC.none rfl)⟩) <|
  Tab.cons (p := fun k af => k < yBase → (∃ fn, Tryd.prog.funcs[k]? = some fn ∧ chkF Tryd.prog fn af = true) ∧ LabC tbl af.body) (fun _ => ⟨⟨_, Tryd.func7, k_pack_Encode⟩, (LabC.none rfl)⟩) <|
  Tab.cons (p := fun k af => k < yBase → (∃ fn, Tryd.prog.funcs[k]? = some fn ∧ chkF Tryd.prog fn af = true) ∧ LabC tbl af.body) (fun _ => ⟨⟨_, Tryd.func8, k_flotsamref34_Encode⟩, (LabC.none rfl)⟩) <|
  Tab.cons (p := fun k af => k < yBase → (∃ fn, Tryd.prog.funcs[k]? = some fn ∧ chkF Tryd.prog fn af = true) ∧ LabC tbl af.body) (fun _ => ⟨⟨_, Tryd.func9, k_pack_Decode⟩, (LabC.none rfl)⟩) <|
  Tab.cons (p := fun k af => k < yBase → (∃ fn, Tryd.prog.funcs[k]? = some fn ∧ chkF Tryd.prog fn af = true) ∧ LabC tbl af.body) (fun _ => ⟨⟨_, Tryd.func10, k_flotsamref34_Decode⟩, (LabC.none rfl)⟩) <|
  Tab.cons (p := fun k af => k < yBase → (∃ fn, Tryd.prog.funcs[k]? = some fn ∧ chkF Tryd.prog fn af = true) ∧ LabC tbl af.body) (fun _ => ⟨⟨_, Tryd.func11, k_flotsamref31_Same⟩, (LabC.none rfl)⟩) <|
  Tab.cons (p := fun k af => k < yBase → (∃ fn, Tryd.prog.funcs[k]? = some fn ∧ chkF Tryd.prog fn af = true) ∧ LabC tbl af.body) (fun _ => ⟨⟨_, Tryd.func12, k_pack_Sum⟩, (LabC.none rfl)⟩) <|
  Tab.cons (p := fun k af => k < yBase → (∃ fn, Tryd.prog.funcs[k]? = some fn ∧ chkF Tryd.prog fn af = true) ∧ LabC tbl af.body) (fun _ => ⟨⟨_, Tryd.func13, k_flotsamref34_Sum⟩, (LabC.none rfl)⟩) <|
  Tab.cons (p := fun k af => k < yBase → (∃ fn, Tryd.prog.funcs[k]? = some fn ∧ chkF Tryd.prog fn af = true) ∧ LabC tbl af.body) (fun _ => ⟨⟨_, Tryd.func14, k_score_Right⟩, (LabC.none rfl)⟩) <|
  Tab.cons (p := fun k af => k < yBase → (∃ fn, Tryd.prog.funcs[k]? = some fn ∧ chkF Tryd.prog fn af = true) ∧ LabC tbl af.body) (fun _ => ⟨⟨_, Tryd.func15, k_flotsamlaw32_One⟩, (LabC.none rfl)⟩) <|
  Tab.cons (p := fun k af => k < yBase → (∃ fn, Tryd.prog.funcs[k]? = some fn ∧ chkF Tryd.prog fn af = true) ∧ LabC tbl af.body) (fun _ => ⟨⟨_, Tryd.func16, k_ppack_writer_put⟩, (LabC.none rfl)⟩) <|
  Tab.cons (p := fun k af => k < yBase → (∃ fn, Tryd.prog.funcs[k]? = some fn ∧ chkF Tryd.prog fn af = true) ∧ LabC tbl af.body) (fun _ => ⟨⟨_, Tryd.func17, k_ppack_writer_cells⟩, (LabC.none rfl)⟩) <|
  Tab.cons (p := fun k af => k < yBase → (∃ fn, Tryd.prog.funcs[k]? = some fn ∧ chkF Tryd.prog fn af = true) ∧ LabC tbl af.body) (fun _ => ⟨⟨_, Tryd.func18, k_pack_seal⟩, (LabC.none rfl)⟩) <|
  Tab.cons (p := fun k af => k < yBase → (∃ fn, Tryd.prog.funcs[k]? = some fn ∧ chkF Tryd.prog fn af = true) ∧ LabC tbl af.body) (fun _ => ⟨⟨_, Tryd.func19, k_flotsamref32_Right⟩, (LabC.none rfl)⟩) <|
  Tab.cons (p := fun k af => k < yBase → (∃ fn, Tryd.prog.funcs[k]? = some fn ∧ chkF Tryd.prog fn af = true) ∧ LabC tbl af.body) (fun _ => ⟨⟨_, Tryd.func20, k_flotsamref34_put⟩, (LabC.none rfl)⟩) <|
  Tab.cons (p := fun k af => k < yBase → (∃ fn, Tryd.prog.funcs[k]? = some fn ∧ chkF Tryd.prog fn af = true) ∧ LabC tbl af.body) (fun _ => ⟨⟨_, Tryd.func21, k_flotsamref34_cells⟩, (LabC.none rfl)⟩) <|
  Tab.cons (p := fun k af => k < yBase → (∃ fn, Tryd.prog.funcs[k]? = some fn ∧ chkF Tryd.prog fn af = true) ∧ LabC tbl af.body) (fun _ => ⟨⟨_, Tryd.func22, k_bytes_Equal⟩, (LabC.none rfl)⟩) <|
  Tab.cons (p := fun k af => k < yBase → (∃ fn, Tryd.prog.funcs[k]? = some fn ∧ chkF Tryd.prog fn af = true) ∧ LabC tbl af.body) (fun _ => ⟨⟨_, Tryd.func23, k_ppack_left_number⟩, (LabC.none rfl)⟩) <|
  Tab.cons (p := fun k af => k < yBase → (∃ fn, Tryd.prog.funcs[k]? = some fn ∧ chkF Tryd.prog fn af = true) ∧ LabC tbl af.body) (fun _ => ⟨⟨_, Tryd.func24, k_ppack_reader_cells⟩, (LabC.none rfl)⟩) <|
  Tab.cons (p := fun k af => k < yBase → (∃ fn, Tryd.prog.funcs[k]? = some fn ∧ chkF Tryd.prog fn af = true) ∧ LabC tbl af.body) (fun _ => ⟨⟨_, Tryd.func25, k_ppack_reader_site⟩, (LabC.none rfl)⟩) <|
  Tab.cons (p := fun k af => k < yBase → (∃ fn, Tryd.prog.funcs[k]? = some fn ∧ chkF Tryd.prog fn af = true) ∧ LabC tbl af.body) (fun _ => ⟨⟨_, Tryd.func26, k_pflotsamref34_bytes_take⟩, (LabC.none rfl)⟩) <|
  Tab.cons (p := fun k af => k < yBase → (∃ fn, Tryd.prog.funcs[k]? = some fn ∧ chkF Tryd.prog fn af = true) ∧ LabC tbl af.body) (fun _ => ⟨⟨_, Tryd.func27, k_pflotsamref34_bytes_cells⟩, (LabC.none rfl)⟩) <|
  Tab.cons (p := fun k af => k < yBase → (∃ fn, Tryd.prog.funcs[k]? = some fn ∧ chkF Tryd.prog fn af = true) ∧ LabC tbl af.body) (fun _ => ⟨⟨_, Tryd.func28, k_flotsamref30_Same⟩, (LabC.none rfl)⟩) <|
  Tab.cons (p := fun k af => k < yBase → (∃ fn, Tryd.prog.funcs[k]? = some fn ∧ chkF Tryd.prog fn af = true) ∧ LabC tbl af.body) (fun _ => ⟨⟨_, Tryd.func29, k_score_odd⟩, (LabC.none rfl)⟩) <|
  Tab.cons (p := fun k af => k < yBase → (∃ fn, Tryd.prog.funcs[k]? = some fn ∧ chkF Tryd.prog fn af = true) ∧ LabC tbl af.body) (fun _ => ⟨⟨_, Tryd.func30, k_cell_Sum⟩, (LabC.none rfl)⟩) <|
  Tab.cons (p := fun k af => k < yBase → (∃ fn, Tryd.prog.funcs[k]? = some fn ∧ chkF Tryd.prog fn af = true) ∧ LabC tbl af.body) (fun _ => ⟨⟨_, Tryd.func31, k_slices_ContainsFunc_api_Cell_api_Cell⟩, (LabC.none rfl)⟩) <|
  Tab.cons (p := fun k af => k < yBase → (∃ fn, Tryd.prog.funcs[k]? = some fn ∧ chkF Tryd.prog fn af = true) ∧ LabC tbl af.body) (fun _ => ⟨⟨_, Tryd.func32, k_site_Name⟩, (LabC.none rfl)⟩) <|
  Tab.cons (p := fun k af => k < yBase → (∃ fn, Tryd.prog.funcs[k]? = some fn ∧ chkF Tryd.prog fn af = true) ∧ LabC tbl af.body) (fun _ => ⟨⟨_, Tryd.func33, k_slices_Contains_api_Site_api_Site⟩, (LabC.none rfl)⟩) <|
  Tab.cons (p := fun k af => k < yBase → (∃ fn, Tryd.prog.funcs[k]? = some fn ∧ chkF Tryd.prog fn af = true) ∧ LabC tbl af.body) (fun _ => ⟨⟨_, Tryd.func34, k_codec_Uint⟩, (LabC.none rfl)⟩) <|
  Tab.cons (p := fun k af => k < yBase → (∃ fn, Tryd.prog.funcs[k]? = some fn ∧ chkF Tryd.prog fn af = true) ∧ LabC tbl af.body) (fun _ => ⟨⟨_, Tryd.func35, k_flotsamref32_cells⟩, (LabC.none rfl)⟩) <|
  Tab.cons (p := fun k af => k < yBase → (∃ fn, Tryd.prog.funcs[k]? = some fn ∧ chkF Tryd.prog fn af = true) ∧ LabC tbl af.body) (fun _ => ⟨⟨_, Tryd.func36, k_flotsamref30_Sum⟩, (LabC.none rfl)⟩) <|
  Tab.cons (p := fun k af => k < yBase → (∃ fn, Tryd.prog.funcs[k]? = some fn ∧ chkF Tryd.prog fn af = true) ∧ LabC tbl af.body) (fun _ => ⟨⟨_, Tryd.func37, k_flotsamref25_Name⟩, (LabC.none rfl)⟩) <|
  Tab.cons (p := fun k af => k < yBase → (∃ fn, Tryd.prog.funcs[k]? = some fn ∧ chkF Tryd.prog fn af = true) ∧ LabC tbl af.body) (fun _ => ⟨⟨_, Tryd.func38, k_flotsamref03_Uint⟩, (LabC.none rfl)⟩) <|
  Tab.cons (p := fun k af => k < yBase → (∃ fn, Tryd.prog.funcs[k]? = some fn ∧ chkF Tryd.prog fn af = true) ∧ LabC tbl af.body) (fun _ => ⟨⟨_, Tryd.func39, k_codec_TakeUint⟩, (LabC.none rfl)⟩) <|
  Tab.cons (p := fun k af => k < yBase → (∃ fn, Tryd.prog.funcs[k]? = some fn ∧ chkF Tryd.prog fn af = true) ∧ LabC tbl af.body) (fun _ => ⟨⟨_, Tryd.func40, k_ppack_reader_cell⟩, (LabC.none rfl)⟩) <|
  Tab.cons (p := fun k af => k < yBase → (∃ fn, Tryd.prog.funcs[k]? = some fn ∧ chkF Tryd.prog fn af = true) ∧ LabC tbl af.body) (fun _ => ⟨⟨_, Tryd.func41, k_flotsamref03_TakeUint⟩, (LabC.none rfl)⟩) <|
  Tab.cons (p := fun k af => k < yBase → (∃ fn, Tryd.prog.funcs[k]? = some fn ∧ chkF Tryd.prog fn af = true) ∧ LabC tbl af.body) (fun _ => ⟨⟨_, Tryd.func42, k_score_odd_1⟩, (LabC.none rfl)⟩) <|
  Tab.cons (p := fun k af => k < yBase → (∃ fn, Tryd.prog.funcs[k]? = some fn ∧ chkF Tryd.prog fn af = true) ∧ LabC tbl af.body) (fun _ => ⟨⟨_, Tryd.func43, k_score_count_api_Cell⟩, (LabC.none rfl)⟩) <|
  Tab.cons (p := fun k af => k < yBase → (∃ fn, Tryd.prog.funcs[k]? = some fn ∧ chkF Tryd.prog fn af = true) ∧ LabC tbl af.body) (fun _ => ⟨⟨_, Tryd.func44, k_cell_Right⟩, (LabC.none rfl)⟩) <|
  Tab.cons (p := fun k af => k < yBase → (∃ fn, Tryd.prog.funcs[k]? = some fn ∧ chkF Tryd.prog fn af = true) ∧ LabC tbl af.body) (fun _ => ⟨⟨_, Tryd.func45, k_slices_IndexFunc_api_Cell_api_Cell⟩, (LabC.none rfl)⟩) <|
  Tab.cons (p := fun k af => k < yBase → (∃ fn, Tryd.prog.funcs[k]? = some fn ∧ chkF Tryd.prog fn af = true) ∧ LabC tbl af.body) (fun _ => ⟨⟨_, Tryd.func46, k_site_words⟩, (LabC.none rfl)⟩) <|
  Tab.cons (p := fun k af => k < yBase → (∃ fn, Tryd.prog.funcs[k]? = some fn ∧ chkF Tryd.prog fn af = true) ∧ LabC tbl af.body) (fun _ => ⟨⟨_, Tryd.func47, k_site_may⟩, (LabC.none rfl)⟩) <|
  Tab.cons (p := fun k af => k < yBase → (∃ fn, Tryd.prog.funcs[k]? = some fn ∧ chkF Tryd.prog fn af = true) ∧ LabC tbl af.body) (fun _ => ⟨⟨_, Tryd.func48, k_site_Word⟩, (LabC.none rfl)⟩) <|
  Tab.cons (p := fun k af => k < yBase → (∃ fn, Tryd.prog.funcs[k]? = some fn ∧ chkF Tryd.prog fn af = true) ∧ LabC tbl af.body) (fun _ => ⟨⟨_, Tryd.func49, k_num_Digits⟩, (LabC.none rfl)⟩) <|
  Tab.cons (p := fun k af => k < yBase → (∃ fn, Tryd.prog.funcs[k]? = some fn ∧ chkF Tryd.prog fn af = true) ∧ LabC tbl af.body) (fun _ => ⟨⟨_, Tryd.func51, k_slices_Index_api_Site_api_Site⟩, (LabC.none rfl)⟩) <|
  Tab.cons (p := fun k af => k < yBase → (∃ fn, Tryd.prog.funcs[k]? = some fn ∧ chkF Tryd.prog fn af = true) ∧ LabC tbl af.body) (fun _ => ⟨⟨_, Tryd.func53, k_flotsamref30_Right⟩, (LabC.none rfl)⟩) <|
  Tab.cons (p := fun k af => k < yBase → (∃ fn, Tryd.prog.funcs[k]? = some fn ∧ chkF Tryd.prog fn af = true) ∧ LabC tbl af.body) (fun _ => ⟨⟨_, Tryd.func54, k_flotsamref25_may⟩, (LabC.none rfl)⟩) <|
  Tab.cons (p := fun k af => k < yBase → (∃ fn, Tryd.prog.funcs[k]? = some fn ∧ chkF Tryd.prog fn af = true) ∧ LabC tbl af.body) (fun _ => ⟨⟨_, Tryd.func55, k_flotsamref25_Word⟩, (LabC.none rfl)⟩) <|
  Tab.cons (p := fun k af => k < yBase → (∃ fn, Tryd.prog.funcs[k]? = some fn ∧ chkF Tryd.prog fn af = true) ∧ LabC tbl af.body) (fun _ => ⟨⟨_, Tryd.func56, k_flotsamref01_Digits⟩, (LabC.none rfl)⟩) <|
  Tab.cons (p := fun k af => k < yBase → (∃ fn, Tryd.prog.funcs[k]? = some fn ∧ chkF Tryd.prog fn af = true) ∧ LabC tbl af.body) (fun _ => ⟨⟨_, Tryd.func58, k_cell_witness⟩, (LabC.none rfl)⟩) <|
  Tab.cons (p := fun k af => k < yBase → (∃ fn, Tryd.prog.funcs[k]? = some fn ∧ chkF Tryd.prog fn af = true) ∧ LabC tbl af.body) (fun _ => ⟨⟨_, Tryd.func59, k_cell_limit⟩, (LabC.none rfl)⟩) <|
  Tab.nil

end Go.Proofs.YteafmhnbeobboaaDoor
