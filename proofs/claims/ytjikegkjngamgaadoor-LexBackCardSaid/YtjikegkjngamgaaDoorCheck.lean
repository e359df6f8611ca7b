/-
  The abstract code of each function fits the loaded function; printed by a program (gen.py).
-/
import Derived.Test.YtjikegkjngamgaaDoorCode
import Derived.Test.YtjikegkjngamgaaDoorRun
import Derived.Test.YtjikegkjngamgaaDoorChecked
namespace Go.Proofs.YtjikegkjngamgaaDoor
open Go.AM

theorem k_flotsamlaw15_LexWords : chkF Tryd.prog Tryd.f3 c_flotsamlaw15_LexWords = true := by kernel_rfl
theorem k_flotsamlaw15_LexShows : chkF Tryd.prog Tryd.f4 c_flotsamlaw15_LexShows = true := by kernel_rfl
theorem k_flotsamlaw15_LexBack : chkF Tryd.prog Tryd.f5 c_flotsamlaw15_LexBack = true := by kernel_rfl
theorem k_flotsamlaw15_knows : chkF Tryd.prog Tryd.f6 c_flotsamlaw15_knows = true := by kernel_rfl
theorem k_lex_Words : chkF Tryd.prog Tryd.f7 c_lex_Words = true := by kernel_rfl
theorem k_flotsamref15_Words : chkF Tryd.prog Tryd.f8 c_flotsamref15_Words = true := by kernel_rfl
theorem k_flotsamref15_Same : chkF Tryd.prog Tryd.f9 c_flotsamref15_Same = true := by kernel_rfl
theorem k_flotsamlaw15_Fault : chkF Tryd.prog Tryd.f10 c_flotsamlaw15_Fault = true := by kernel_rfl
theorem k_lex_Key : chkF Tryd.prog Tryd.f11 c_lex_Key = true := by kernel_rfl
theorem k_flotsamref15_Key : chkF Tryd.prog Tryd.f12 c_flotsamref15_Key = true := by kernel_rfl
theorem k_lex_Name : chkF Tryd.prog Tryd.f13 c_lex_Name = true := by kernel_rfl
theorem k_flotsamref15_Name : chkF Tryd.prog Tryd.f14 c_flotsamref15_Name = true := by kernel_rfl
theorem k_lex_Show : chkF Tryd.prog Tryd.f15 c_lex_Show = true := by kernel_rfl
theorem k_flotsamref15_Show : chkF Tryd.prog Tryd.f16 c_flotsamref15_Show = true := by kernel_rfl
theorem k_lex_skip : chkF Tryd.prog Tryd.f17 c_lex_skip = true := by kernel_rfl
theorem k_lex_next : chkF Tryd.prog Tryd.f18 c_lex_next = true := by kernel_rfl
theorem k_flotsamref15_skip : chkF Tryd.prog Tryd.f19 c_flotsamref15_skip = true := by kernel_rfl
theorem k_flotsamref15_one : chkF Tryd.prog Tryd.f20 c_flotsamref15_one = true := by kernel_rfl
theorem k_lex_begins : chkF Tryd.prog Tryd.f22 c_lex_begins = true := by kernel_rfl
theorem k_lex_letter : chkF Tryd.prog Tryd.f23 c_lex_letter = true := by kernel_rfl
theorem k_lex_inner : chkF Tryd.prog Tryd.f25 c_lex_inner = true := by kernel_rfl
theorem k_flotsamref15_letter : chkF Tryd.prog Tryd.f26 c_flotsamref15_letter = true := by kernel_rfl
theorem k_flotsamref15_inner : chkF Tryd.prog Tryd.f27 c_flotsamref15_inner = true := by kernel_rfl
theorem k_num_Digits : chkF Tryd.prog Tryd.f28 c_num_Digits = true := by kernel_rfl
theorem k_view_Quote : chkF Tryd.prog Tryd.f29 c_view_Quote = true := by kernel_rfl
theorem k_slices_Equal_api_Word_api_Word : chkF Tryd.prog Tryd.f30 c_slices_Equal_api_Word_api_Word = true := by kernel_rfl
theorem k_flotsamref01_Digits : chkF Tryd.prog Tryd.f31 c_flotsamref01_Digits = true := by kernel_rfl
theorem k_flotsamref14_Quote : chkF Tryd.prog Tryd.f32 c_flotsamref14_Quote = true := by kernel_rfl
theorem k_flotsamref15_Sign : chkF Tryd.prog Tryd.f33 c_flotsamref15_Sign = true := by kernel_rfl
theorem k_strings_HasPrefix : chkF Tryd.prog Tryd.f35 c_strings_HasPrefix = true := by kernel_rfl
theorem k_lex_word : chkF Tryd.prog Tryd.f37 c_lex_word = true := by kernel_rfl
theorem k_lex_digit : chkF Tryd.prog Tryd.f38 c_lex_digit = true := by kernel_rfl
theorem k_lex_number : chkF Tryd.prog Tryd.f39 c_lex_number = true := by kernel_rfl
theorem k_lex_text : chkF Tryd.prog Tryd.f40 c_lex_text = true := by kernel_rfl
theorem k_lex_sign : chkF Tryd.prog Tryd.f41 c_lex_sign = true := by kernel_rfl
theorem k_flotsamref15_digit : chkF Tryd.prog Tryd.f42 c_flotsamref15_digit = true := by kernel_rfl
theorem k_flotsamref01_Read : chkF Tryd.prog Tryd.f43 c_flotsamref01_Read = true := by kernel_rfl
theorem k_flotsamref14_Unquote : chkF Tryd.prog Tryd.f44 c_flotsamref14_Unquote = true := by kernel_rfl
theorem k_view_plain : chkF Tryd.prog Tryd.f49 c_view_plain = true := by kernel_rfl
theorem k_flotsamref14_sign : chkF Tryd.prog Tryd.f51 c_flotsamref14_sign = true := by kernel_rfl
theorem k_internal_stringslite_HasPrefix : chkF Tryd.prog Tryd.f56 c_internal_stringslite_HasPrefix = true := by kernel_rfl
theorem k_num_Read : chkF Tryd.prog Tryd.f58 c_num_Read = true := by kernel_rfl
theorem k_view_Unquote : chkF Tryd.prog Tryd.f59 c_view_Unquote = true := by kernel_rfl
theorem k_flotsamref14_value : chkF Tryd.prog Tryd.f60 c_flotsamref14_value = true := by kernel_rfl
theorem k_strings_CutPrefix : chkF Tryd.prog Tryd.f68 c_strings_CutPrefix = true := by kernel_rfl
theorem k_strings_CutSuffix : chkF Tryd.prog Tryd.f69 c_strings_CutSuffix = true := by kernel_rfl
theorem k_view_pair : chkF Tryd.prog Tryd.f70 c_view_pair = true := by kernel_rfl
theorem k_internal_stringslite_CutPrefix : chkF Tryd.prog Tryd.f77 c_internal_stringslite_CutPrefix = true := by kernel_rfl
theorem k_internal_stringslite_CutSuffix : chkF Tryd.prog Tryd.f78 c_internal_stringslite_CutSuffix = true := by kernel_rfl
theorem k_internal_stringslite_HasSuffix : chkF Tryd.prog Tryd.f81 c_internal_stringslite_HasSuffix = true := by kernel_rfl

set_option maxRecDepth 100000 in
theorem fits : ∀ k af, tbl k = some af → k < yBase → (∃ fn, Tryd.prog.funcs[k]? = some fn ∧ chkF Tryd.prog fn af = true) ∧ LabC tbl af.body :=
  Tab.cons (p := fun k af => k < yBase → (∃ fn, Tryd.prog.funcs[k]? = some fn ∧ chkF Tryd.prog fn af = true) ∧ LabC tbl af.body) (fun _ => ⟨⟨_, Tryd.func3, k_flotsamlaw15_LexWords⟩, (LabC.none rfl)⟩) <|
  Tab.cons (p := fun k af => k < yBase → (∃ fn, Tryd.prog.funcs[k]? = some fn ∧ chkF Tryd.prog fn af = true) ∧ LabC tbl af.body) (fun _ => ⟨⟨_, Tryd.func4, k_flotsamlaw15_LexShows⟩, (LabC.none rfl)⟩) <|
  Tab.cons (p := fun k af => k < yBase → (∃ fn, Tryd.prog.funcs[k]? = some fn ∧ chkF Tryd.prog fn af = true) ∧ LabC tbl af.body) (fun _ => ⟨⟨_, Tryd.func5, k_flotsamlaw15_LexBack⟩, (LabC.none rfl)⟩) <|
  Tab.cons (p := fun k af => k < yBase → (∃ fn, Tryd.prog.funcs[k]? = some fn ∧ chkF Tryd.prog fn af = true) ∧ LabC tbl af.body) (fun _ => ⟨⟨_, Tryd.func6, k_flotsamlaw15_knows⟩, (LabC.none rfl)⟩) <|
  Tab.cons (p := fun k af => k < yBase → (∃ fn, Tryd.prog.funcs[k]? = some fn ∧ chkF Tryd.prog fn af = true) ∧ LabC tbl af.body) (fun _ => ⟨⟨_, Tryd.func7, k_lex_Words⟩, (LabC.none rfl)⟩) <|
  Tab.cons (p := fun k af => k < yBase → (∃ fn, Tryd.prog.funcs[k]? = some fn ∧ chkF Tryd.prog fn af = true) ∧ LabC tbl af.body) (fun _ => ⟨⟨_, Tryd.func8, k_flotsamref15_Words⟩, (LabC.none rfl)⟩) <|
  Tab.cons (p := fun k af => k < yBase → (∃ fn, Tryd.prog.funcs[k]? = some fn ∧ chkF Tryd.prog fn af = true) ∧ LabC tbl af.body) (fun _ => ⟨⟨_, Tryd.func9, k_flotsamref15_Same⟩, (LabC.none rfl)⟩) <|
  Tab.cons (p := fun k af => k < yBase → (∃ fn, Tryd.prog.funcs[k]? = some fn ∧ chkF Tryd.prog fn af = true) ∧ LabC tbl af.body) (fun _ => ⟨⟨_, Tryd.func10, k_flotsamlaw15_Fault⟩, (LabC.none rfl)⟩) <|
  Tab.cons (p := fun k af => k < yBase → (∃ fn, Tryd.prog.funcs[k]? = some fn ∧ chkF Tryd.prog fn af = true) ∧ LabC tbl af.body) (fun _ => ⟨⟨_, Tryd.func11, k_lex_Key⟩, (LabC.none rfl)⟩) <|
  Tab.cons (p := fun k af => k < yBase → (∃ fn, Tryd.prog.funcs[k]? = some fn ∧ chkF Tryd.prog fn af = true) ∧ LabC tbl af.body) (fun _ => ⟨⟨_, Tryd.func12, k_flotsamref15_Key⟩, (LabC.none rfl)⟩) <|
  Tab.cons (p := fun k af => k < yBase → (∃ fn, Tryd.prog.funcs[k]? = some fn ∧ chkF Tryd.prog fn af = true) ∧ LabC tbl af.body) (fun _ => ⟨⟨_, Tryd.func13, k_lex_Name⟩, (LabC.none rfl)⟩) <|
  Tab.cons (p := fun k af => k < yBase → (∃ fn, Tryd.prog.funcs[k]? = some fn ∧ chkF Tryd.prog fn af = true) ∧ LabC tbl af.body) (fun _ => ⟨⟨_, Tryd.func14, k_flotsamref15_Name⟩, (LabC.none rfl)⟩) <|
  Tab.cons (p := fun k af => k < yBase → (∃ fn, Tryd.prog.funcs[k]? = some fn ∧ chkF Tryd.prog fn af = true) ∧ LabC tbl af.body) (fun _ => ⟨⟨_, Tryd.func15, k_lex_Show⟩, (LabC.none rfl)⟩) <|
  Tab.cons (p := fun k af => k < yBase → (∃ fn, Tryd.prog.funcs[k]? = some fn ∧ chkF Tryd.prog fn af = true) ∧ LabC tbl af.body) (fun _ => ⟨⟨_, Tryd.func16, k_flotsamref15_Show⟩, (LabC.none rfl)⟩) <|
  Tab.cons (p := fun k af => k < yBase → (∃ fn, Tryd.prog.funcs[k]? = some fn ∧ chkF Tryd.prog fn af = true) ∧ LabC tbl af.body) (fun _ => ⟨⟨_, Tryd.func17, k_lex_skip⟩, (LabC.none rfl)⟩) <|
  Tab.cons (p := fun k af => k < yBase → (∃ fn, Tryd.prog.funcs[k]? = some fn ∧ chkF Tryd.prog fn af = true) ∧ LabC tbl af.body) (fun _ => ⟨⟨_, Tryd.func18, k_lex_next⟩, (LabC.none rfl)⟩) <|
  Tab.cons (p := fun k af => k < yBase → (∃ fn, Tryd.prog.funcs[k]? = some fn ∧ chkF Tryd.prog fn af = true) ∧ LabC tbl af.body) (fun _ => ⟨⟨_, Tryd.func19, k_flotsamref15_skip⟩, (LabC.none rfl)⟩) <|
  Tab.cons (p := fun k af => k < yBase → (∃ fn, Tryd.prog.funcs[k]? = some fn ∧ chkF Tryd.prog fn af = true) ∧ LabC tbl af.body) (fun _ => ⟨⟨_, Tryd.func20, k_flotsamref15_one⟩, (LabC.none rfl)⟩) <|
  Tab.cons (p := fun k af => k < yBase → (∃ fn, Tryd.prog.funcs[k]? = some fn ∧ chkF Tryd.prog fn af = true) ∧ LabC tbl af.body) (fun _ => ⟨⟨_, Tryd.func22, k_lex_begins⟩, (LabC.none rfl)⟩) <|
  Tab.cons (p := fun k af => k < yBase → (∃ fn, Tryd.prog.funcs[k]? = some fn ∧ chkF Tryd.prog fn af = true) ∧ LabC tbl af.body) (fun _ => ⟨⟨_, Tryd.func23, k_lex_letter⟩, (LabC.none rfl)⟩) <|
  Tab.cons (p := fun k af => k < yBase → (∃ fn, Tryd.prog.funcs[k]? = some fn ∧ chkF Tryd.prog fn af = true) ∧ LabC tbl af.body) (fun _ => ⟨⟨_, Tryd.func25, k_lex_inner⟩, (LabC.none rfl)⟩) <|
  Tab.cons (p := fun k af => k < yBase → (∃ fn, Tryd.prog.funcs[k]? = some fn ∧ chkF Tryd.prog fn af = true) ∧ LabC tbl af.body) (fun _ => ⟨⟨_, Tryd.func26, k_flotsamref15_letter⟩, (LabC.none rfl)⟩) <|
  Tab.cons (p := fun k af => k < yBase → (∃ fn, Tryd.prog.funcs[k]? = some fn ∧ chkF Tryd.prog fn af = true) ∧ LabC tbl af.body) (fun _ => ⟨⟨_, Tryd.func27, k_flotsamref15_inner⟩, (LabC.none rfl)⟩) <|
  Tab.cons (p := fun k af => k < yBase → (∃ fn, Tryd.prog.funcs[k]? = some fn ∧ chkF Tryd.prog fn af = true) ∧ LabC tbl af.body) (fun _ => ⟨⟨_, Tryd.func28, k_num_Digits⟩, (LabC.none rfl)⟩) <|
  Tab.cons (p := fun k af => k < yBase → (∃ fn, Tryd.prog.funcs[k]? = some fn ∧ chkF Tryd.prog fn af = true) ∧ LabC tbl af.body) (fun _ => ⟨⟨_, Tryd.func29, k_view_Quote⟩, (LabC.none rfl)⟩) <|
  Tab.cons (p := fun k af => k < yBase → (∃ fn, Tryd.prog.funcs[k]? = some fn ∧ chkF Tryd.prog fn af = true) ∧ LabC tbl af.body) (fun _ => ⟨⟨_, Tryd.func30, k_slices_Equal_api_Word_api_Word⟩, (LabC.none rfl)⟩) <|
  Tab.cons (p := fun k af => k < yBase → (∃ fn, Tryd.prog.funcs[k]? = some fn ∧ chkF Tryd.prog fn af = true) ∧ LabC tbl af.body) (fun _ => ⟨⟨_, Tryd.func31, k_flotsamref01_Digits⟩, (LabC.none rfl)⟩) <|
  Tab.cons (p := fun k af => k < yBase → (∃ fn, Tryd.prog.funcs[k]? = some fn ∧ chkF Tryd.prog fn af = true) ∧ LabC tbl af.body) (fun _ => ⟨⟨_, Tryd.func32, k_flotsamref14_Quote⟩, (LabC.none rfl)⟩) <|
  Tab.cons (p := fun k af => k < yBase → (∃ fn, Tryd.prog.funcs[k]? = some fn ∧ chkF Tryd.prog fn af = true) ∧ LabC tbl af.body) (fun _ => ⟨⟨_, Tryd.func33, k_flotsamref15_Sign⟩, (LabC.none rfl)⟩) <|
  Tab.cons (p := fun k af => k < yBase → (∃ fn, Tryd.prog.funcs[k]? = some fn ∧ chkF Tryd.prog fn af = true) ∧ LabC tbl af.body) (fun _ => ⟨⟨_, Tryd.func35, k_strings_HasPrefix⟩, (LabC.none rfl)⟩) <|
  Tab.cons (p := fun k af => k < yBase → (∃ fn, Tryd.prog.funcs[k]? = some fn ∧ chkF Tryd.prog fn af = true) ∧ LabC tbl af.body) (fun _ => ⟨⟨_, Tryd.func37, k_lex_word⟩, (LabC.none rfl)⟩) <|
  Tab.cons (p := fun k af => k < yBase → (∃ fn, Tryd.prog.funcs[k]? = some fn ∧ chkF Tryd.prog fn af = true) ∧ LabC tbl af.body) (fun _ => ⟨⟨_, Tryd.func38, k_lex_digit⟩, (LabC.none rfl)⟩) <|
  Tab.cons (p := fun k af => k < yBase → (∃ fn, Tryd.prog.funcs[k]? = some fn ∧ chkF Tryd.prog fn af = true) ∧ LabC tbl af.body) (fun _ => ⟨⟨_, Tryd.func39, k_lex_number⟩, (LabC.none rfl)⟩) <|
  Tab.cons (p := fun k af => k < yBase → (∃ fn, Tryd.prog.funcs[k]? = some fn ∧ chkF Tryd.prog fn af = true) ∧ LabC tbl af.body) (fun _ => ⟨⟨_, Tryd.func40, k_lex_text⟩, (LabC.none rfl)⟩) <|
  Tab.cons (p := fun k af => k < yBase → (∃ fn, Tryd.prog.funcs[k]? = some fn ∧ chkF Tryd.prog fn af = true) ∧ LabC tbl af.body) (fun _ => ⟨⟨_, Tryd.func41, k_lex_sign⟩, (LabC.none rfl)⟩) <|
  Tab.cons (p := fun k af => k < yBase → (∃ fn, Tryd.prog.funcs[k]? = some fn ∧ chkF Tryd.prog fn af = true) ∧ LabC tbl af.body) (fun _ => ⟨⟨_, Tryd.func42, k_flotsamref15_digit⟩, (LabC.none rfl)⟩) <|
  Tab.cons (p := fun k af => k < yBase → (∃ fn, Tryd.prog.funcs[k]? = some fn ∧ chkF Tryd.prog fn af = true) ∧ LabC tbl af.body) (fun _ => ⟨⟨_, Tryd.func43, k_flotsamref01_Read⟩, (LabC.none rfl)⟩) <|
  Tab.cons (p := fun k af => k < yBase → (∃ fn, Tryd.prog.funcs[k]? = some fn ∧ chkF Tryd.prog fn af = true) ∧ LabC tbl af.body) (fun _ => ⟨⟨_, Tryd.func44, k_flotsamref14_Unquote⟩, (LabC.none rfl)⟩) <|
  Tab.cons (p := fun k af => k < yBase → (∃ fn, Tryd.prog.funcs[k]? = some fn ∧ chkF Tryd.prog fn af = true) ∧ LabC tbl af.body) (fun _ => ⟨⟨_, Tryd.func49, k_view_plain⟩, (LabC.none rfl)⟩) <|
  Tab.cons (p := fun k af => k < yBase → (∃ fn, Tryd.prog.funcs[k]? = some fn ∧ chkF Tryd.prog fn af = true) ∧ LabC tbl af.body) (fun _ => ⟨⟨_, Tryd.func51, k_flotsamref14_sign⟩, (LabC.none rfl)⟩) <|
  Tab.cons (p := fun k af => k < yBase → (∃ fn, Tryd.prog.funcs[k]? = some fn ∧ chkF Tryd.prog fn af = true) ∧ LabC tbl af.body) (fun _ => ⟨⟨_, Tryd.func56, k_internal_stringslite_HasPrefix⟩, (LabC.none rfl)⟩) <|
  Tab.cons (p := fun k af => k < yBase → (∃ fn, Tryd.prog.funcs[k]? = some fn ∧ chkF Tryd.prog fn af = true) ∧ LabC tbl af.body) (fun _ => ⟨⟨_, Tryd.func58, k_num_Read⟩, (LabC.none rfl)⟩) <|
  Tab.cons (p := fun k af => k < yBase → (∃ fn, Tryd.prog.funcs[k]? = some fn ∧ chkF Tryd.prog fn af = true) ∧ LabC tbl af.body) (fun _ => ⟨⟨_, Tryd.func59, k_view_Unquote⟩, (LabC.none rfl)⟩) <|
  Tab.cons (p := fun k af => k < yBase → (∃ fn, Tryd.prog.funcs[k]? = some fn ∧ chkF Tryd.prog fn af = true) ∧ LabC tbl af.body) (fun _ => ⟨⟨_, Tryd.func60, k_flotsamref14_value⟩, (LabC.none rfl)⟩) <|
  Tab.cons (p := fun k af => k < yBase → (∃ fn, Tryd.prog.funcs[k]? = some fn ∧ chkF Tryd.prog fn af = true) ∧ LabC tbl af.body) (fun _ => ⟨⟨_, Tryd.func68, k_strings_CutPrefix⟩, (LabC.none rfl)⟩) <|
  Tab.cons (p := fun k af => k < yBase → (∃ fn, Tryd.prog.funcs[k]? = some fn ∧ chkF Tryd.prog fn af = true) ∧ LabC tbl af.body) (fun _ => ⟨⟨_, Tryd.func69, k_strings_CutSuffix⟩, (LabC.none rfl)⟩) <|
  Tab.cons (p := fun k af => k < yBase → (∃ fn, Tryd.prog.funcs[k]? = some fn ∧ chkF Tryd.prog fn af = true) ∧ LabC tbl af.body) (fun _ => ⟨⟨_, Tryd.func70, k_view_pair⟩, (LabC.none rfl)⟩) <|
  Tab.cons (p := fun k af => k < yBase → (∃ fn, Tryd.prog.funcs[k]? = some fn ∧ chkF Tryd.prog fn af = true) ∧ LabC tbl af.body) (fun _ => ⟨⟨_, Tryd.func77, k_internal_stringslite_CutPrefix⟩, (LabC.none rfl)⟩) <|
  Tab.cons (p := fun k af => k < yBase → (∃ fn, Tryd.prog.funcs[k]? = some fn ∧ chkF Tryd.prog fn af = true) ∧ LabC tbl af.body) (fun _ => ⟨⟨_, Tryd.func78, k_internal_stringslite_CutSuffix⟩, (LabC.none rfl)⟩) <|
  Tab.cons (p := fun k af => k < yBase → (∃ fn, Tryd.prog.funcs[k]? = some fn ∧ chkF Tryd.prog fn af = true) ∧ LabC tbl af.body) (fun _ => ⟨⟨_, Tryd.func81, k_internal_stringslite_HasSuffix⟩, (LabC.none rfl)⟩) <|
  Tab.nil

end Go.Proofs.YtjikegkjngamgaaDoor
