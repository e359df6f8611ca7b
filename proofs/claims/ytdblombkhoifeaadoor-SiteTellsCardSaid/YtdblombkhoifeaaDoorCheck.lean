/-
  The abstract code of each function fits the loaded function; printed by a program (gen.py).
-/
import Derived.Test.YtdblombkhoifeaaDoorCode
import Derived.Test.YtdblombkhoifeaaDoorRun
import Derived.Test.YtdblombkhoifeaaDoorChecked
namespace Go.Proofs.YtdblombkhoifeaaDoor
open Go.AM

theorem k_flotsamlaw25_SiteTells : chkF Tryd.prog Tryd.f4 c_flotsamlaw25_SiteTells = true := by kernel_rfl
theorem k_flotsamlaw16_Small : chkF Tryd.prog Tryd.f22 c_flotsamlaw16_Small = true := by kernel_rfl
theorem k_flotsamlaw25_knows : chkF Tryd.prog Tryd.f23 c_flotsamlaw25_knows = true := by kernel_rfl
theorem k_site_At : chkF Tryd.prog Tryd.f24 c_site_At = true := by kernel_rfl
theorem k_flotsamref25_At : chkF Tryd.prog Tryd.f25 c_flotsamref25_At = true := by kernel_rfl
theorem k_flotsamref16_SameStmt : chkF Tryd.prog Tryd.f26 c_flotsamref16_SameStmt = true := by kernel_rfl
theorem k_site_Fits : chkF Tryd.prog Tryd.f27 c_site_Fits = true := by kernel_rfl
theorem k_flotsamref25_Fits : chkF Tryd.prog Tryd.f28 c_flotsamref25_Fits = true := by kernel_rfl
theorem k_flotsamref25_Same : chkF Tryd.prog Tryd.f29 c_flotsamref25_Same = true := by kernel_rfl
theorem k_site_Sites : chkF Tryd.prog Tryd.f30 c_site_Sites = true := by kernel_rfl
theorem k_flotsamref25_Sites : chkF Tryd.prog Tryd.f31 c_flotsamref25_Sites = true := by kernel_rfl
theorem k_site_Name : chkF Tryd.prog Tryd.f61 c_site_Name = true := by kernel_rfl
theorem k_flotsamref16_Size : chkF Tryd.prog Tryd.f68 c_flotsamref16_Size = true := by kernel_rfl
theorem k_site_Read : chkF Tryd.prog Tryd.f69 c_site_Read = true := by kernel_rfl
theorem k_site_lead : chkF Tryd.prog Tryd.f70 c_site_lead = true := by kernel_rfl
theorem k_tree_Clone : chkF Tryd.prog Tryd.f71 c_tree_Clone = true := by kernel_rfl
theorem k_flotsamref25_Lead : chkF Tryd.prog Tryd.f72 c_flotsamref25_Lead = true := by kernel_rfl
theorem k_flotsamref16_SameExpr : chkF Tryd.prog Tryd.f73 c_flotsamref16_SameExpr = true := by kernel_rfl
theorem k_flotsamref16_SameStmts : chkF Tryd.prog Tryd.f74 c_flotsamref16_SameStmts = true := by kernel_rfl
theorem k_site_fits : chkF Tryd.prog Tryd.f75 c_site_fits = true := by kernel_rfl
theorem k_flotsamref25_writes : chkF Tryd.prog Tryd.f76 c_flotsamref25_writes = true := by kernel_rfl
theorem k_site_parts : chkF Tryd.prog Tryd.f77 c_site_parts = true := by kernel_rfl
theorem k_site_each : chkF Tryd.prog Tryd.f78 c_site_each = true := by kernel_rfl
theorem k_site_Sites_1 : chkF Tryd.prog Tryd.f79 c_site_Sites_1 = true := by kernel_rfl
theorem k_site_Sites_2 : chkF Tryd.prog Tryd.f80 c_site_Sites_2 = true := by kernel_rfl
theorem k_flotsamref25_Ways : chkF Tryd.prog Tryd.f81 c_flotsamref25_Ways = true := by kernel_rfl
theorem k_num_Digits : chkF Tryd.prog Tryd.f100 c_num_Digits = true := by kernel_rfl
theorem k_site_words : chkF Tryd.prog Tryd.f109 c_site_words = true := by kernel_rfl
theorem k_site_may : chkF Tryd.prog Tryd.f110 c_site_may = true := by kernel_rfl
theorem k_site_Word : chkF Tryd.prog Tryd.f111 c_site_Word = true := by kernel_rfl
theorem k_flotsamref25_may : chkF Tryd.prog Tryd.f114 c_flotsamref25_may = true := by kernel_rfl
theorem k_flotsamref16_block : chkF Tryd.prog Tryd.f117 c_flotsamref16_block = true := by kernel_rfl
theorem k_flotsamref16_expr : chkF Tryd.prog Tryd.f118 c_flotsamref16_expr = true := by kernel_rfl
theorem k_num_Read : chkF Tryd.prog Tryd.f120 c_num_Read = true := by kernel_rfl
theorem k_site_next : chkF Tryd.prog Tryd.f121 c_site_next = true := by kernel_rfl
theorem k_tree_each_api_Proc : chkF Tryd.prog Tryd.f122 c_tree_each_api_Proc = true := by kernel_rfl
theorem k_tree_Clone_1 : chkF Tryd.prog Tryd.f123 c_tree_Clone_1 = true := by kernel_rfl
theorem k_tree_each_api_Stmt : chkF Tryd.prog Tryd.f124 c_tree_each_api_Stmt = true := by kernel_rfl
theorem k_tree_cloned : chkF Tryd.prog Tryd.f125 c_tree_cloned = true := by kernel_rfl
theorem k_tree_each_api_Oracle : chkF Tryd.prog Tryd.f126 c_tree_each_api_Oracle = true := by kernel_rfl
theorem k_tree_Clone_2 : chkF Tryd.prog Tryd.f127 c_tree_Clone_2 = true := by kernel_rfl
theorem k_tree_clonedExpr : chkF Tryd.prog Tryd.f128 c_tree_clonedExpr = true := by kernel_rfl
theorem k_flotsamref25_Block : chkF Tryd.prog Tryd.f129 c_flotsamref25_Block = true := by kernel_rfl
theorem k_site_writes : chkF Tryd.prog Tryd.f130 c_site_writes = true := by kernel_rfl
theorem k_site_torn : chkF Tryd.prog Tryd.f131 c_site_torn = true := by kernel_rfl
theorem k_site_each_1 : chkF Tryd.prog Tryd.f132 c_site_each_1 = true := by kernel_rfl
theorem k_site_each_2 : chkF Tryd.prog Tryd.f133 c_site_each_2 = true := by kernel_rfl
theorem k_flotsamref25_ways : chkF Tryd.prog Tryd.f134 c_flotsamref25_ways = true := by kernel_rfl
theorem k_tree_each_api_Expr : chkF Tryd.prog Tryd.f146 c_tree_each_api_Expr = true := by kernel_rfl

set_option maxRecDepth 100000 in
theorem fits : ∀ k af, tbl k = some af → k < yBase → (∃ fn, Tryd.prog.funcs[k]? = some fn ∧ chkF Tryd.prog fn af = true) ∧ LabC tbl af.body :=
  Tab.cons (p := fun k af => k < yBase → (∃ fn, Tryd.prog.funcs[k]? = some fn ∧ chkF Tryd.prog fn af = true) ∧ LabC tbl af.body) (fun _ => ⟨⟨_, Tryd.func4, k_flotsamlaw25_SiteTells⟩, (LabC.none rfl)⟩) <|
  Tab.cons (p := fun k af => k < yBase → (∃ fn, Tryd.prog.funcs[k]? = some fn ∧ chkF Tryd.prog fn af = true) ∧ LabC tbl af.body) (fun _ => ⟨⟨_, Tryd.func22, k_flotsamlaw16_Small⟩, (LabC.none rfl)⟩) <|
  Tab.cons (p := fun k af => k < yBase → (∃ fn, Tryd.prog.funcs[k]? = some fn ∧ chkF Tryd.prog fn af = true) ∧ LabC tbl af.body) (fun _ => ⟨⟨_, Tryd.func23, k_flotsamlaw25_knows⟩, (LabC.none rfl)⟩) <|
  Tab.cons (p := fun k af => k < yBase → (∃ fn, Tryd.prog.funcs[k]? = some fn ∧ chkF Tryd.prog fn af = true) ∧ LabC tbl af.body) (fun _ => ⟨⟨_, Tryd.func24, k_site_At⟩, (LabC.none rfl)⟩) <|
  Tab.cons (p := fun k af => k < yBase → (∃ fn, Tryd.prog.funcs[k]? = some fn ∧ chkF Tryd.prog fn af = true) ∧ LabC tbl af.body) (fun _ => ⟨⟨_, Tryd.func25, k_flotsamref25_At⟩, (LabC.none rfl)⟩) <|
  Tab.cons (p := fun k af => k < yBase → (∃ fn, Tryd.prog.funcs[k]? = some fn ∧ chkF Tryd.prog fn af = true) ∧ LabC tbl af.body) (fun _ => ⟨⟨_, Tryd.func26, k_flotsamref16_SameStmt⟩, (LabC.none rfl)⟩) <|
  Tab.cons (p := fun k af => k < yBase → (∃ fn, Tryd.prog.funcs[k]? = some fn ∧ chkF Tryd.prog fn af = true) ∧ LabC tbl af.body) (fun _ => ⟨⟨_, Tryd.func27, k_site_Fits⟩, (LabC.none rfl)⟩) <|
  Tab.cons (p := fun k af => k < yBase → (∃ fn, Tryd.prog.funcs[k]? = some fn ∧ chkF Tryd.prog fn af = true) ∧ LabC tbl af.body) (fun _ => ⟨⟨_, Tryd.func28, k_flotsamref25_Fits⟩, (LabC.none rfl)⟩) <|
  Tab.cons (p := fun k af => k < yBase → (∃ fn, Tryd.prog.funcs[k]? = some fn ∧ chkF Tryd.prog fn af = true) ∧ LabC tbl af.body) (fun _ => ⟨⟨_, Tryd.func29, k_flotsamref25_Same⟩, (LabC.none rfl)⟩) <|
  Tab.cons (p := fun k af => k < yBase → (∃ fn, Tryd.prog.funcs[k]? = some fn ∧ chkF Tryd.prog fn af = true) ∧ LabC tbl af.body) (fun _ => ⟨⟨_, Tryd.func30, k_site_Sites⟩, (LabC.none rfl)⟩) <|
  Tab.cons (p := fun k af => k < yBase → (∃ fn, Tryd.prog.funcs[k]? = some fn ∧ chkF Tryd.prog fn af = true) ∧ LabC tbl af.body) (fun _ => ⟨⟨_, Tryd.func31, k_flotsamref25_Sites⟩, (LabC.none rfl)⟩) <|
  Tab.cons (p := fun k af => k < yBase → (∃ fn, Tryd.prog.funcs[k]? = some fn ∧ chkF Tryd.prog fn af = true) ∧ LabC tbl af.body) (fun _ => ⟨⟨_, Tryd.func61, k_site_Name⟩, (LabC.none rfl)⟩) <|
  Tab.cons (p := fun k af => k < yBase → (∃ fn, Tryd.prog.funcs[k]? = some fn ∧ chkF Tryd.prog fn af = true) ∧ LabC tbl af.body) (fun _ => ⟨⟨_, Tryd.func68, k_flotsamref16_Size⟩, (LabC.none rfl)⟩) <|
  Tab.cons (p := fun k af => k < yBase → (∃ fn, Tryd.prog.funcs[k]? = some fn ∧ chkF Tryd.prog fn af = true) ∧ LabC tbl af.body) (fun _ => ⟨⟨_, Tryd.func69, k_site_Read⟩, (LabC.none rfl)⟩) <|
  Tab.cons (p := fun k af => k < yBase → (∃ fn, Tryd.prog.funcs[k]? = some fn ∧ chkF Tryd.prog fn af = true) ∧ LabC tbl af.body) (fun _ => ⟨⟨_, Tryd.func70, k_site_lead⟩, (LabC.none rfl)⟩) <|
  Tab.cons (p := fun k af => k < yBase → (∃ fn, Tryd.prog.funcs[k]? = some fn ∧ chkF Tryd.prog fn af = true) ∧ LabC tbl af.body) (fun _ => ⟨⟨_, Tryd.func71, k_tree_Clone⟩, (LabC.none rfl)⟩) <|
  Tab.cons (p := fun k af => k < yBase → (∃ fn, Tryd.prog.funcs[k]? = some fn ∧ chkF Tryd.prog fn af = true) ∧ LabC tbl af.body) (fun _ => ⟨⟨_, Tryd.func72, k_flotsamref25_Lead⟩, (LabC.none rfl)⟩) <|
  Tab.cons (p := fun k af => k < yBase → (∃ fn, Tryd.prog.funcs[k]? = some fn ∧ chkF Tryd.prog fn af = true) ∧ LabC tbl af.body) (fun _ => ⟨⟨_, Tryd.func73, k_flotsamref16_SameExpr⟩, (LabC.none rfl)⟩) <|
  Tab.cons (p := fun k af => k < yBase → (∃ fn, Tryd.prog.funcs[k]? = some fn ∧ chkF Tryd.prog fn af = true) ∧ LabC tbl af.body) (fun _ => ⟨⟨_, Tryd.func74, k_flotsamref16_SameStmts⟩, (LabC.none rfl)⟩) <|
  Tab.cons (p := fun k af => k < yBase → (∃ fn, Tryd.prog.funcs[k]? = some fn ∧ chkF Tryd.prog fn af = true) ∧ LabC tbl af.body) (fun _ => ⟨⟨_, Tryd.func75, k_site_fits⟩, (LabC.none rfl)⟩) <|
  Tab.cons (p := fun k af => k < yBase → (∃ fn, Tryd.prog.funcs[k]? = some fn ∧ chkF Tryd.prog fn af = true) ∧ LabC tbl af.body) (fun _ => ⟨⟨_, Tryd.func76, k_flotsamref25_writes⟩, (LabC.none rfl)⟩) <|
  Tab.cons (p := fun k af => k < yBase → (∃ fn, Tryd.prog.funcs[k]? = some fn ∧ chkF Tryd.prog fn af = true) ∧ LabC tbl af.body) (fun _ => ⟨⟨_, Tryd.func77, k_site_parts⟩, (LabC.none rfl)⟩) <|
  Tab.cons (p := fun k af => k < yBase → (∃ fn, Tryd.prog.funcs[k]? = some fn ∧ chkF Tryd.prog fn af = true) ∧ LabC tbl af.body) (fun _ => ⟨⟨_, Tryd.func78, k_site_each⟩, (LabC.none rfl)⟩) <|
  Tab.cons (p := fun k af => k < yBase → (∃ fn, Tryd.prog.funcs[k]? = some fn ∧ chkF Tryd.prog fn af = true) ∧ LabC tbl af.body) (fun _ => ⟨⟨_, Tryd.func79, k_site_Sites_1⟩, (LabC.none rfl)⟩) <|
  Tab.cons (p := fun k af => k < yBase → (∃ fn, Tryd.prog.funcs[k]? = some fn ∧ chkF Tryd.prog fn af = true) ∧ LabC tbl af.body) (fun _ => ⟨⟨_, Tryd.func80, k_site_Sites_2⟩, (LabC.none rfl)⟩) <|
  Tab.cons (p := fun k af => k < yBase → (∃ fn, Tryd.prog.funcs[k]? = some fn ∧ chkF Tryd.prog fn af = true) ∧ LabC tbl af.body) (fun _ => ⟨⟨_, Tryd.func81, k_flotsamref25_Ways⟩, (LabC.none rfl)⟩) <|
  Tab.cons (p := fun k af => k < yBase → (∃ fn, Tryd.prog.funcs[k]? = some fn ∧ chkF Tryd.prog fn af = true) ∧ LabC tbl af.body) (fun _ => ⟨⟨_, Tryd.func100, k_num_Digits⟩, (LabC.none rfl)⟩) <|
  Tab.cons (p := fun k af => k < yBase → (∃ fn, Tryd.prog.funcs[k]? = some fn ∧ chkF Tryd.prog fn af = true) ∧ LabC tbl af.body) (fun _ => ⟨⟨_, Tryd.func109, k_site_words⟩, (LabC.none rfl)⟩) <|
  Tab.cons (p := fun k af => k < yBase → (∃ fn, Tryd.prog.funcs[k]? = some fn ∧ chkF Tryd.prog fn af = true) ∧ LabC tbl af.body) (fun _ => ⟨⟨_, Tryd.func110, k_site_may⟩, (LabC.none rfl)⟩) <|
  Tab.cons (p := fun k af => k < yBase → (∃ fn, Tryd.prog.funcs[k]? = some fn ∧ chkF Tryd.prog fn af = true) ∧ LabC tbl af.body) (fun _ => ⟨⟨_, Tryd.func111, k_site_Word⟩, (LabC.none rfl)⟩) <|
  Tab.cons (p := fun k af => k < yBase → (∃ fn, Tryd.prog.funcs[k]? = some fn ∧ chkF Tryd.prog fn af = true) ∧ LabC tbl af.body) (fun _ => ⟨⟨_, Tryd.func114, k_flotsamref25_may⟩, (LabC.none rfl)⟩) <|
  Tab.cons (p := fun k af => k < yBase → (∃ fn, Tryd.prog.funcs[k]? = some fn ∧ chkF Tryd.prog fn af = true) ∧ LabC tbl af.body) (fun _ => ⟨⟨_, Tryd.func117, k_flotsamref16_block⟩, (LabC.none rfl)⟩) <|
  Tab.cons (p := fun k af => k < yBase → (∃ fn, Tryd.prog.funcs[k]? = some fn ∧ chkF Tryd.prog fn af = true) ∧ LabC tbl af.body) (fun _ => ⟨⟨_, Tryd.func118, k_flotsamref16_expr⟩, (LabC.none rfl)⟩) <|
  Tab.cons (p := fun k af => k < yBase → (∃ fn, Tryd.prog.funcs[k]? = some fn ∧ chkF Tryd.prog fn af = true) ∧ LabC tbl af.body) (fun _ => ⟨⟨_, Tryd.func120, k_num_Read⟩, (LabC.none rfl)⟩) <|
  Tab.cons (p := fun k af => k < yBase → (∃ fn, Tryd.prog.funcs[k]? = some fn ∧ chkF Tryd.prog fn af = true) ∧ LabC tbl af.body) (fun _ => ⟨⟨_, Tryd.func121, k_site_next⟩, (LabC.none rfl)⟩) <|
  Tab.cons (p := fun k af => k < yBase → (∃ fn, Tryd.prog.funcs[k]? = some fn ∧ chkF Tryd.prog fn af = true) ∧ LabC tbl af.body) (fun _ => ⟨⟨_, Tryd.func122, k_tree_each_api_Proc⟩, (LabC.none rfl)⟩) <|
  Tab.cons (p := fun k af => k < yBase → (∃ fn, Tryd.prog.funcs[k]? = some fn ∧ chkF Tryd.prog fn af = true) ∧ LabC tbl af.body) (fun _ => ⟨⟨_, Tryd.func123, k_tree_Clone_1⟩, (LabC.none rfl)⟩) <|
  Tab.cons (p := fun k af => k < yBase → (∃ fn, Tryd.prog.funcs[k]? = some fn ∧ chkF Tryd.prog fn af = true) ∧ LabC tbl af.body) (fun _ => ⟨⟨_, Tryd.func124, k_tree_each_api_Stmt⟩, (LabC.none rfl)⟩) <|
  Tab.cons (p := fun k af => k < yBase → (∃ fn, Tryd.prog.funcs[k]? = some fn ∧ chkF Tryd.prog fn af = true) ∧ LabC tbl af.body) (fun _ => ⟨⟨_, Tryd.func125, k_tree_cloned⟩, (LabC.none rfl)⟩) <|
  Tab.cons (p := fun k af => k < yBase → (∃ fn, Tryd.prog.funcs[k]? = some fn ∧ chkF Tryd.prog fn af = true) ∧ LabC tbl af.body) (fun _ => ⟨⟨_, Tryd.func126, k_tree_each_api_Oracle⟩, (LabC.none rfl)⟩) <|
  Tab.cons (p := fun k af => k < yBase → (∃ fn, Tryd.prog.funcs[k]? = some fn ∧ chkF Tryd.prog fn af = true) ∧ LabC tbl af.body) (fun _ => ⟨⟨_, Tryd.func127, k_tree_Clone_2⟩, (LabC.none rfl)⟩) <|
  Tab.cons (p := fun k af => k < yBase → (∃ fn, Tryd.prog.funcs[k]? = some fn ∧ chkF Tryd.prog fn af = true) ∧ LabC tbl af.body) (fun _ => ⟨⟨_, Tryd.func128, k_tree_clonedExpr⟩, (LabC.none rfl)⟩) <|
  Tab.cons (p := fun k af => k < yBase → (∃ fn, Tryd.prog.funcs[k]? = some fn ∧ chkF Tryd.prog fn af = true) ∧ LabC tbl af.body) (fun _ => ⟨⟨_, Tryd.func129, k_flotsamref25_Block⟩, (LabC.none rfl)⟩) <|
  Tab.cons (p := fun k af => k < yBase → (∃ fn, Tryd.prog.funcs[k]? = some fn ∧ chkF Tryd.prog fn af = true) ∧ LabC tbl af.body) (fun _ => ⟨⟨_, Tryd.func130, k_site_writes⟩, (LabC.none rfl)⟩) <|
  Tab.cons (p := fun k af => k < yBase → (∃ fn, Tryd.prog.funcs[k]? = some fn ∧ chkF Tryd.prog fn af = true) ∧ LabC tbl af.body) (fun _ => ⟨⟨_, Tryd.func131, k_site_torn⟩, (LabC.none rfl)⟩) <|
  Tab.cons (p := fun k af => k < yBase → (∃ fn, Tryd.prog.funcs[k]? = some fn ∧ chkF Tryd.prog fn af = true) ∧ LabC tbl af.body) (fun _ => ⟨⟨_, Tryd.func132, k_site_each_1⟩, (LabC.none rfl)⟩) <|
  Tab.cons (p := fun k af => k < yBase → (∃ fn, Tryd.prog.funcs[k]? = some fn ∧ chkF Tryd.prog fn af = true) ∧ LabC tbl af.body) (fun _ => ⟨⟨_, Tryd.func133, k_site_each_2⟩, (LabC.none rfl)⟩) <|
  Tab.cons (p := fun k af => k < yBase → (∃ fn, Tryd.prog.funcs[k]? = some fn ∧ chkF Tryd.prog fn af = true) ∧ LabC tbl af.body) (fun _ => ⟨⟨_, Tryd.func134, k_flotsamref25_ways⟩, (LabC.none rfl)⟩) <|
  Tab.cons (p := fun k af => k < yBase → (∃ fn, Tryd.prog.funcs[k]? = some fn ∧ chkF Tryd.prog fn af = true) ∧ LabC tbl af.body) (fun _ => ⟨⟨_, Tryd.func146, k_tree_each_api_Expr⟩, (LabC.none rfl)⟩) <|
  Tab.nil

end Go.Proofs.YtdblombkhoifeaaDoor
