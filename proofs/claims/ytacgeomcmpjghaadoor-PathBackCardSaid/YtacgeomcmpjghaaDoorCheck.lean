/-
  The abstract code of each function fits the loaded function; printed by a program (gen.py).
-/
import Derived.Test.YtacgeomcmpjghaaDoorCode
import Derived.Test.YtacgeomcmpjghaaDoorRun
import Derived.Test.YtacgeomcmpjghaaDoorChecked
namespace Go.Proofs.YtacgeomcmpjghaaDoor
open Go.AM

theorem k_flotsamlaw08_PathTells : chkF Tryd.prog Tryd.f6 c_flotsamlaw08_PathTells = true := by kernel_rfl
theorem k_flotsamlaw08_PathBack : chkF Tryd.prog Tryd.f7 c_flotsamlaw08_PathBack = true := by kernel_rfl
theorem k_flotsamlaw08_knows : chkF Tryd.prog Tryd.f37 c_flotsamlaw08_knows = true := by kernel_rfl
theorem k_path_Split : chkF Tryd.prog Tryd.f38 c_path_Split = true := by kernel_rfl
theorem k_flotsamref08_Split : chkF Tryd.prog Tryd.f39 c_flotsamref08_Split = true := by kernel_rfl
theorem k_path_Parent : chkF Tryd.prog Tryd.f40 c_path_Parent = true := by kernel_rfl
theorem k_flotsamref08_Parent : chkF Tryd.prog Tryd.f41 c_flotsamref08_Parent = true := by kernel_rfl
theorem k_flotsamlaw08_Texts : chkF Tryd.prog Tryd.f42 c_flotsamlaw08_Texts = true := by kernel_rfl
theorem k_flotsamlaw08_num : chkF Tryd.prog Tryd.f43 c_flotsamlaw08_num = true := by kernel_rfl
theorem k_path_Join : chkF Tryd.prog Tryd.f44 c_path_Join = true := by kernel_rfl
theorem k_flotsamref08_Join : chkF Tryd.prog Tryd.f45 c_flotsamref08_Join = true := by kernel_rfl
theorem k_path_Under : chkF Tryd.prog Tryd.f46 c_path_Under = true := by kernel_rfl
theorem k_flotsamref08_Under : chkF Tryd.prog Tryd.f47 c_flotsamref08_Under = true := by kernel_rfl
theorem k_flotsamref07_Name : chkF Tryd.prog Tryd.f48 c_flotsamref07_Name = true := by kernel_rfl
theorem k_layout_Name : chkF Tryd.prog Tryd.f75 c_layout_Name = true := by kernel_rfl
theorem k_strings_CutPrefix : chkF Tryd.prog Tryd.f104 c_strings_CutPrefix = true := by kernel_rfl
theorem k_slices_ContainsFunc_string_string : chkF Tryd.prog Tryd.f106 c_slices_ContainsFunc_string_string = true := by kernel_rfl
theorem k_path_Split_1 : chkF Tryd.prog Tryd.f107 c_path_Split_1 = true := by kernel_rfl
theorem k_slices_Equal_string_string : chkF Tryd.prog Tryd.f108 c_slices_Equal_string_string = true := by kernel_rfl
theorem k_strings_Trim : chkF Tryd.prog Tryd.f135 c_strings_Trim = true := by kernel_rfl
theorem k_internal_stringslite_CutPrefix : chkF Tryd.prog Tryd.f150 c_internal_stringslite_CutPrefix = true := by kernel_rfl
theorem k_slices_IndexFunc_string_string : chkF Tryd.prog Tryd.f152 c_slices_IndexFunc_string_string = true := by kernel_rfl
theorem k_strings_trimLeftByte : chkF Tryd.prog Tryd.f164 c_strings_trimLeftByte = true := by kernel_rfl
theorem k_strings_trimRightByte : chkF Tryd.prog Tryd.f165 c_strings_trimRightByte = true := by kernel_rfl
theorem k_strings_makeASCIISet : chkF Tryd.prog Tryd.f166 c_strings_makeASCIISet = true := by kernel_rfl
theorem k_strings_trimLeftASCII : chkF Tryd.prog Tryd.f167 c_strings_trimLeftASCII = true := by kernel_rfl
theorem k_strings_trimRightASCII : chkF Tryd.prog Tryd.f168 c_strings_trimRightASCII = true := by kernel_rfl
theorem k_strings_trimLeftUnicode : chkF Tryd.prog Tryd.f169 c_strings_trimLeftUnicode = true := by kernel_rfl
theorem k_strings_trimRightUnicode : chkF Tryd.prog Tryd.f170 c_strings_trimRightUnicode = true := by kernel_rfl
theorem k_internal_stringslite_HasPrefix : chkF Tryd.prog Tryd.f176 c_internal_stringslite_HasPrefix = true := by kernel_rfl
theorem k_pstrings_asciiSet_contains : chkF Tryd.prog Tryd.f193 c_pstrings_asciiSet_contains = true := by kernel_rfl
theorem k_unicode_utf8_DecodeRuneInString : chkF Tryd.prog Tryd.f194 c_unicode_utf8_DecodeRuneInString = true := by kernel_rfl
theorem k_strings_ContainsRune : chkF Tryd.prog Tryd.f195 c_strings_ContainsRune = true := by kernel_rfl
theorem k_unicode_utf8_DecodeLastRuneInString : chkF Tryd.prog Tryd.f196 c_unicode_utf8_DecodeLastRuneInString = true := by kernel_rfl
theorem k_unicode_utf8_RuneStart : chkF Tryd.prog Tryd.f211 c_unicode_utf8_RuneStart = true := by kernel_rfl

set_option maxRecDepth 100000 in
theorem fits : ∀ k af, tbl k = some af → k < yBase → (∃ fn, Tryd.prog.funcs[k]? = some fn ∧ chkF Tryd.prog fn af = true) ∧ LabC tbl af.body :=
  Tab.cons (p := fun k af => k < yBase → (∃ fn, Tryd.prog.funcs[k]? = some fn ∧ chkF Tryd.prog fn af = true) ∧ LabC tbl af.body) (fun _ => ⟨⟨_, Tryd.func6, k_flotsamlaw08_PathTells⟩, (LabC.none rfl)⟩) <|
  Tab.cons (p := fun k af => k < yBase → (∃ fn, Tryd.prog.funcs[k]? = some fn ∧ chkF Tryd.prog fn af = true) ∧ LabC tbl af.body) (fun _ => ⟨⟨_, Tryd.func7, k_flotsamlaw08_PathBack⟩, (LabC.none rfl)⟩) <|
  Tab.cons (p := fun k af => k < yBase → (∃ fn, Tryd.prog.funcs[k]? = some fn ∧ chkF Tryd.prog fn af = true) ∧ LabC tbl af.body) (fun _ => ⟨⟨_, Tryd.func37, k_flotsamlaw08_knows⟩, (LabC.none rfl)⟩) <|
  Tab.cons (p := fun k af => k < yBase → (∃ fn, Tryd.prog.funcs[k]? = some fn ∧ chkF Tryd.prog fn af = true) ∧ LabC tbl af.body) (fun _ => ⟨⟨_, Tryd.func38, k_path_Split⟩, (LabC.none rfl)⟩) <|
  Tab.cons (p := fun k af => k < yBase → (∃ fn, Tryd.prog.funcs[k]? = some fn ∧ chkF Tryd.prog fn af = true) ∧ LabC tbl af.body) (fun _ => ⟨⟨_, Tryd.func39, k_flotsamref08_Split⟩, (LabC.none rfl)⟩) <|
  Tab.cons (p := fun k af => k < yBase → (∃ fn, Tryd.prog.funcs[k]? = some fn ∧ chkF Tryd.prog fn af = true) ∧ LabC tbl af.body) (fun _ => ⟨⟨_, Tryd.func40, k_path_Parent⟩, (LabC.none rfl)⟩) <|
  Tab.cons (p := fun k af => k < yBase → (∃ fn, Tryd.prog.funcs[k]? = some fn ∧ chkF Tryd.prog fn af = true) ∧ LabC tbl af.body) (fun _ => ⟨⟨_, Tryd.func41, k_flotsamref08_Parent⟩, (LabC.none rfl)⟩) <|
  Tab.cons (p := fun k af => k < yBase → (∃ fn, Tryd.prog.funcs[k]? = some fn ∧ chkF Tryd.prog fn af = true) ∧ LabC tbl af.body) (fun _ => ⟨⟨_, Tryd.func42, k_flotsamlaw08_Texts⟩, (LabC.none rfl)⟩) <|
  Tab.cons (p := fun k af => k < yBase → (∃ fn, Tryd.prog.funcs[k]? = some fn ∧ chkF Tryd.prog fn af = true) ∧ LabC tbl af.body) (fun _ => ⟨⟨_, Tryd.func43, k_flotsamlaw08_num⟩, (LabC.none rfl)⟩) <|
  Tab.cons (p := fun k af => k < yBase → (∃ fn, Tryd.prog.funcs[k]? = some fn ∧ chkF Tryd.prog fn af = true) ∧ LabC tbl af.body) (fun _ => ⟨⟨_, Tryd.func44, k_path_Join⟩, (LabC.none rfl)⟩) <|
  Tab.cons (p := fun k af => k < yBase → (∃ fn, Tryd.prog.funcs[k]? = some fn ∧ chkF Tryd.prog fn af = true) ∧ LabC tbl af.body) (fun _ => ⟨⟨_, Tryd.func45, k_flotsamref08_Join⟩, (LabC.none rfl)⟩) <|
  Tab.cons (p := fun k af => k < yBase → (∃ fn, Tryd.prog.funcs[k]? = some fn ∧ chkF Tryd.prog fn af = true) ∧ LabC tbl af.body) (fun _ => ⟨⟨_, Tryd.func46, k_path_Under⟩, (LabC.none rfl)⟩) <|
  Tab.cons (p := fun k af => k < yBase → (∃ fn, Tryd.prog.funcs[k]? = some fn ∧ chkF Tryd.prog fn af = true) ∧ LabC tbl af.body) (fun _ => ⟨⟨_, Tryd.func47, k_flotsamref08_Under⟩, (LabC.none rfl)⟩) <|
  Tab.cons (p := fun k af => k < yBase → (∃ fn, Tryd.prog.funcs[k]? = some fn ∧ chkF Tryd.prog fn af = true) ∧ LabC tbl af.body) (fun _ => ⟨⟨_, Tryd.func48, k_flotsamref07_Name⟩, (LabC.none rfl)⟩) <|
  Tab.cons (p := fun k af => k < yBase → (∃ fn, Tryd.prog.funcs[k]? = some fn ∧ chkF Tryd.prog fn af = true) ∧ LabC tbl af.body) (fun _ => ⟨⟨_, Tryd.func75, k_layout_Name⟩, (LabC.none rfl)⟩) <|
  Tab.cons (p := fun k af => k < yBase → (∃ fn, Tryd.prog.funcs[k]? = some fn ∧ chkF Tryd.prog fn af = true) ∧ LabC tbl af.body) (fun _ => ⟨⟨_, Tryd.func104, k_strings_CutPrefix⟩, (LabC.none rfl)⟩) <|
  Tab.cons (p := fun k af => k < yBase → (∃ fn, Tryd.prog.funcs[k]? = some fn ∧ chkF Tryd.prog fn af = true) ∧ LabC tbl af.body) (fun _ => ⟨⟨_, Tryd.func106, k_slices_ContainsFunc_string_string⟩, (LabC.none rfl)⟩) <|
  Tab.cons (p := fun k af => k < yBase → (∃ fn, Tryd.prog.funcs[k]? = some fn ∧ chkF Tryd.prog fn af = true) ∧ LabC tbl af.body) (fun _ => ⟨⟨_, Tryd.func107, k_path_Split_1⟩, (LabC.none rfl)⟩) <|
  Tab.cons (p := fun k af => k < yBase → (∃ fn, Tryd.prog.funcs[k]? = some fn ∧ chkF Tryd.prog fn af = true) ∧ LabC tbl af.body) (fun _ => ⟨⟨_, Tryd.func108, k_slices_Equal_string_string⟩, (LabC.none rfl)⟩) <|
  Tab.cons (p := fun k af => k < yBase → (∃ fn, Tryd.prog.funcs[k]? = some fn ∧ chkF Tryd.prog fn af = true) ∧ LabC tbl af.body) (fun _ => ⟨⟨_, Tryd.func135, k_strings_Trim⟩, (LabC.none rfl)⟩) <|
  Tab.cons (p := fun k af => k < yBase → (∃ fn, Tryd.prog.funcs[k]? = some fn ∧ chkF Tryd.prog fn af = true) ∧ LabC tbl af.body) (fun _ => ⟨⟨_, Tryd.func150, k_internal_stringslite_CutPrefix⟩, (LabC.none rfl)⟩) <|
  Tab.cons (p := fun k af => k < yBase → (∃ fn, Tryd.prog.funcs[k]? = some fn ∧ chkF Tryd.prog fn af = true) ∧ LabC tbl af.body) (fun _ => ⟨⟨_, Tryd.func152, k_slices_IndexFunc_string_string⟩, (LabC.none rfl)⟩) <|
  Tab.cons (p := fun k af => k < yBase → (∃ fn, Tryd.prog.funcs[k]? = some fn ∧ chkF Tryd.prog fn af = true) ∧ LabC tbl af.body) (fun _ => ⟨⟨_, Tryd.func164, k_strings_trimLeftByte⟩, (LabC.none rfl)⟩) <|
  Tab.cons (p := fun k af => k < yBase → (∃ fn, Tryd.prog.funcs[k]? = some fn ∧ chkF Tryd.prog fn af = true) ∧ LabC tbl af.body) (fun _ => ⟨⟨_, Tryd.func165, k_strings_trimRightByte⟩, (LabC.none rfl)⟩) <|
  Tab.cons (p := fun k af => k < yBase → (∃ fn, Tryd.prog.funcs[k]? = some fn ∧ chkF Tryd.prog fn af = true) ∧ LabC tbl af.body) (fun _ => ⟨⟨_, Tryd.func166, k_strings_makeASCIISet⟩, (LabC.none rfl)⟩) <|
  Tab.cons (p := fun k af => k < yBase → (∃ fn, Tryd.prog.funcs[k]? = some fn ∧ chkF Tryd.prog fn af = true) ∧ LabC tbl af.body) (fun _ => ⟨⟨_, Tryd.func167, k_strings_trimLeftASCII⟩, (LabC.none rfl)⟩) <|
  Tab.cons (p := fun k af => k < yBase → (∃ fn, Tryd.prog.funcs[k]? = some fn ∧ chkF Tryd.prog fn af = true) ∧ LabC tbl af.body) (fun _ => ⟨⟨_, Tryd.func168, k_strings_trimRightASCII⟩, (LabC.none rfl)⟩) <|
  Tab.cons (p := fun k af => k < yBase → (∃ fn, Tryd.prog.funcs[k]? = some fn ∧ chkF Tryd.prog fn af = true) ∧ LabC tbl af.body) (fun _ => ⟨⟨_, Tryd.func169, k_strings_trimLeftUnicode⟩, (LabC.none rfl)⟩) <|
  Tab.cons (p := fun k af => k < yBase → (∃ fn, Tryd.prog.funcs[k]? = some fn ∧ chkF Tryd.prog fn af = true) ∧ LabC tbl af.body) (fun _ => ⟨⟨_, Tryd.func170, k_strings_trimRightUnicode⟩, (LabC.none rfl)⟩) <|
  Tab.cons (p := fun k af => k < yBase → (∃ fn, Tryd.prog.funcs[k]? = some fn ∧ chkF Tryd.prog fn af = true) ∧ LabC tbl af.body) (fun _ => ⟨⟨_, Tryd.func176, k_internal_stringslite_HasPrefix⟩, (LabC.none rfl)⟩) <|
  Tab.cons (p := fun k af => k < yBase → (∃ fn, Tryd.prog.funcs[k]? = some fn ∧ chkF Tryd.prog fn af = true) ∧ LabC tbl af.body) (fun _ => ⟨⟨_, Tryd.func193, k_pstrings_asciiSet_contains⟩, (LabC.none rfl)⟩) <|
  Tab.cons (p := fun k af => k < yBase → (∃ fn, Tryd.prog.funcs[k]? = some fn ∧ chkF Tryd.prog fn af = true) ∧ LabC tbl af.body) (fun _ => ⟨⟨_, Tryd.func194, k_unicode_utf8_DecodeRuneInString⟩, (LabC.none rfl)⟩) <|
  Tab.cons (p := fun k af => k < yBase → (∃ fn, Tryd.prog.funcs[k]? = some fn ∧ chkF Tryd.prog fn af = true) ∧ LabC tbl af.body) (fun _ => ⟨⟨_, Tryd.func195, k_strings_ContainsRune⟩, (LabC.none rfl)⟩) <|
  Tab.cons (p := fun k af => k < yBase → (∃ fn, Tryd.prog.funcs[k]? = some fn ∧ chkF Tryd.prog fn af = true) ∧ LabC tbl af.body) (fun _ => ⟨⟨_, Tryd.func196, k_unicode_utf8_DecodeLastRuneInString⟩, (LabC.none rfl)⟩) <|
  Tab.cons (p := fun k af => k < yBase → (∃ fn, Tryd.prog.funcs[k]? = some fn ∧ chkF Tryd.prog fn af = true) ∧ LabC tbl af.body) (fun _ => ⟨⟨_, Tryd.func211, k_unicode_utf8_RuneStart⟩, (LabC.none rfl)⟩) <|
  Tab.nil

end Go.Proofs.YtacgeomcmpjghaaDoor
