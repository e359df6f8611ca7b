/-
  The abstract code of each function fits the loaded function; printed by a program (gen.py).
-/
import Derived.Test.YtddhdalacanngaaCode
import Derived.Test.YtddhdalacanngaaRun
import Derived.Test.YtddhdalacanngaaChecked
namespace Go.Proofs.Ytddhdalacanngaa
open Go.AM

theorem k_flotsamlaw01_NumTexts : chkF Try.prog Try.f3 c_flotsamlaw01_NumTexts = true := by kernel_rfl
theorem k_flotsamlaw01_NumRange : chkF Try.prog Try.f4 c_flotsamlaw01_NumRange = true := by kernel_rfl
theorem k_flotsamlaw01_NumBack : chkF Try.prog Try.f5 c_flotsamlaw01_NumBack = true := by kernel_rfl
theorem k_flotsamlaw01_knows : chkF Try.prog Try.f6 c_flotsamlaw01_knows = true := by kernel_rfl
theorem k_num_Read : chkF Try.prog Try.f7 c_num_Read = true := by kernel_rfl
theorem k_flotsamref01_Read : chkF Try.prog Try.f8 c_flotsamref01_Read = true := by kernel_rfl
theorem k_num_Digits : chkF Try.prog Try.f9 c_num_Digits = true := by kernel_rfl
theorem k_flotsamref01_Digits : chkF Try.prog Try.f10 c_flotsamref01_Digits = true := by kernel_rfl
theorem k_num_Add : chkF Try.prog Try.f11 c_num_Add = true := by kernel_rfl
theorem k_flotsamref01_Add : chkF Try.prog Try.f12 c_flotsamref01_Add = true := by kernel_rfl
theorem k_num_Sub : chkF Try.prog Try.f13 c_num_Sub = true := by kernel_rfl
theorem k_flotsamref01_Sub : chkF Try.prog Try.f14 c_flotsamref01_Sub = true := by kernel_rfl
theorem k_num_Narrow : chkF Try.prog Try.f15 c_num_Narrow = true := by kernel_rfl
theorem k_flotsamref01_Narrow : chkF Try.prog Try.f16 c_flotsamref01_Narrow = true := by kernel_rfl
theorem k_num_in : chkF Try.prog Try.f17 c_num_in = true := by kernel_rfl
theorem k_flotsamref01_In : chkF Try.prog Try.f18 c_flotsamref01_In = true := by kernel_rfl

set_option maxRecDepth 100000 in
theorem fits : ∀ k af, tbl k = some af → ∃ fn, Try.prog.funcs[k]? = some fn ∧ chkF Try.prog fn af = true :=
  Tab.cons (p := fun k af => ∃ fn, Try.prog.funcs[k]? = some fn ∧ chkF Try.prog fn af = true) ⟨_, Try.func3, k_flotsamlaw01_NumTexts⟩ <|
  Tab.cons (p := fun k af => ∃ fn, Try.prog.funcs[k]? = some fn ∧ chkF Try.prog fn af = true) ⟨_, Try.func4, k_flotsamlaw01_NumRange⟩ <|
  Tab.cons (p := fun k af => ∃ fn, Try.prog.funcs[k]? = some fn ∧ chkF Try.prog fn af = true) ⟨_, Try.func5, k_flotsamlaw01_NumBack⟩ <|
  Tab.cons (p := fun k af => ∃ fn, Try.prog.funcs[k]? = some fn ∧ chkF Try.prog fn af = true) ⟨_, Try.func6, k_flotsamlaw01_knows⟩ <|
  Tab.cons (p := fun k af => ∃ fn, Try.prog.funcs[k]? = some fn ∧ chkF Try.prog fn af = true) ⟨_, Try.func7, k_num_Read⟩ <|
  Tab.cons (p := fun k af => ∃ fn, Try.prog.funcs[k]? = some fn ∧ chkF Try.prog fn af = true) ⟨_, Try.func8, k_flotsamref01_Read⟩ <|
  Tab.cons (p := fun k af => ∃ fn, Try.prog.funcs[k]? = some fn ∧ chkF Try.prog fn af = true) ⟨_, Try.func9, k_num_Digits⟩ <|
  Tab.cons (p := fun k af => ∃ fn, Try.prog.funcs[k]? = some fn ∧ chkF Try.prog fn af = true) ⟨_, Try.func10, k_flotsamref01_Digits⟩ <|
  Tab.cons (p := fun k af => ∃ fn, Try.prog.funcs[k]? = some fn ∧ chkF Try.prog fn af = true) ⟨_, Try.func11, k_num_Add⟩ <|
  Tab.cons (p := fun k af => ∃ fn, Try.prog.funcs[k]? = some fn ∧ chkF Try.prog fn af = true) ⟨_, Try.func12, k_flotsamref01_Add⟩ <|
  Tab.cons (p := fun k af => ∃ fn, Try.prog.funcs[k]? = some fn ∧ chkF Try.prog fn af = true) ⟨_, Try.func13, k_num_Sub⟩ <|
  Tab.cons (p := fun k af => ∃ fn, Try.prog.funcs[k]? = some fn ∧ chkF Try.prog fn af = true) ⟨_, Try.func14, k_flotsamref01_Sub⟩ <|
  Tab.cons (p := fun k af => ∃ fn, Try.prog.funcs[k]? = some fn ∧ chkF Try.prog fn af = true) ⟨_, Try.func15, k_num_Narrow⟩ <|
  Tab.cons (p := fun k af => ∃ fn, Try.prog.funcs[k]? = some fn ∧ chkF Try.prog fn af = true) ⟨_, Try.func16, k_flotsamref01_Narrow⟩ <|
  Tab.cons (p := fun k af => ∃ fn, Try.prog.funcs[k]? = some fn ∧ chkF Try.prog fn af = true) ⟨_, Try.func17, k_num_in⟩ <|
  Tab.cons (p := fun k af => ∃ fn, Try.prog.funcs[k]? = some fn ∧ chkF Try.prog fn af = true) ⟨_, Try.func18, k_flotsamref01_In⟩ <|
  Tab.nil

end Go.Proofs.Ytddhdalacanngaa
