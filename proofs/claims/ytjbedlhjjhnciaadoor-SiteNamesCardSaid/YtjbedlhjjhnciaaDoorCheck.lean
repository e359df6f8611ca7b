/-
  The abstract code of each function fits the loaded function; printed by a program (gen.py).
-/
import Derived.Test.YtjbedlhjjhnciaaDoorCode
import Derived.Test.YtjbedlhjjhnciaaDoorRun
import Derived.Test.YtjbedlhjjhnciaaDoorChecked
namespace Go.Proofs.YtjbedlhjjhnciaaDoor
open Go.AM

theorem k_flotsamlaw25_SiteTells : chkF Tryd.prog Tryd.f6 c_flotsamlaw25_SiteTells = true := by kernel_rfl
theorem k_flotsamlaw25_SiteNames : chkF Tryd.prog Tryd.f7 c_flotsamlaw25_SiteNames = true := by kernel_rfl
theorem k_flotsamlaw16_Small : chkF Tryd.prog Tryd.f19 c_flotsamlaw16_Small = true := by kernel_rfl
theorem k_flotsamlaw25_knows : chkF Tryd.prog Tryd.f20 c_flotsamlaw25_knows = true := by kernel_rfl
theorem k_site_At : chkF Tryd.prog Tryd.f21 c_site_At = true := by kernel_rfl
theorem k_flotsamref25_At : chkF Tryd.prog Tryd.f22 c_flotsamref25_At = true := by kernel_rfl
theorem k_flotsamref16_SameStmt : chkF Tryd.prog Tryd.f23 c_flotsamref16_SameStmt = true := by kernel_rfl
theorem k_site_Fits : chkF Tryd.prog Tryd.f24 c_site_Fits = true := by kernel_rfl
theorem k_flotsamref25_Fits : chkF Tryd.prog Tryd.f25 c_flotsamref25_Fits = true := by kernel_rfl
theorem k_flotsamref25_Same : chkF Tryd.prog Tryd.f26 c_flotsamref25_Same = true := by kernel_rfl
theorem k_site_Sites : chkF Tryd.prog Tryd.f27 c_site_Sites = true := by kernel_rfl
theorem k_flotsamref25_Sites : chkF Tryd.prog Tryd.f28 c_flotsamref25_Sites = true := by kernel_rfl
theorem k_site_Name : chkF Tryd.prog Tryd.f29 c_site_Name = true := by kernel_rfl
theorem k_flotsamref25_Name : chkF Tryd.prog Tryd.f30 c_flotsamref25_Name = true := by kernel_rfl
theorem k_site_Read : chkF Tryd.prog Tryd.f31 c_site_Read = true := by kernel_rfl
theorem k_flotsamref25_Read : chkF Tryd.prog Tryd.f32 c_flotsamref25_Read = true := by kernel_rfl
theorem k_site_Word : chkF Tryd.prog Tryd.f33 c_site_Word = true := by kernel_rfl
theorem k_flotsamref25_Word : chkF Tryd.prog Tryd.f34 c_flotsamref25_Word = true := by kernel_rfl
theorem k_num_Digits : chkF Tryd.prog Tryd.f46 c_num_Digits = true := by kernel_rfl
theorem k_flotsamref01_Digits : chkF Tryd.prog Tryd.f49 c_flotsamref01_Digits = true := by kernel_rfl
theorem k_flotsamref16_Size : chkF Tryd.prog Tryd.f52 c_flotsamref16_Size = true := by kernel_rfl
theorem k_site_lead : chkF Tryd.prog Tryd.f53 c_site_lead = true := by kernel_rfl
theorem k_tree_Clone : chkF Tryd.prog Tryd.f54 c_tree_Clone = true := by kernel_rfl
theorem k_flotsamref25_Lead : chkF Tryd.prog Tryd.f55 c_flotsamref25_Lead = true := by kernel_rfl
theorem k_flotsamref16_SameExpr : chkF Tryd.prog Tryd.f56 c_flotsamref16_SameExpr = true := by kernel_rfl
theorem k_flotsamref16_SameStmts : chkF Tryd.prog Tryd.f57 c_flotsamref16_SameStmts = true := by kernel_rfl
theorem k_site_fits : chkF Tryd.prog Tryd.f58 c_site_fits = true := by kernel_rfl
theorem k_flotsamref25_writes : chkF Tryd.prog Tryd.f59 c_flotsamref25_writes = true := by kernel_rfl
theorem k_site_parts : chkF Tryd.prog Tryd.f60 c_site_parts = true := by kernel_rfl
theorem k_site_each : chkF Tryd.prog Tryd.f61 c_site_each = true := by kernel_rfl
theorem k_site_Sites_1 : chkF Tryd.prog Tryd.f62 c_site_Sites_1 = true := by kernel_rfl
theorem k_site_Sites_2 : chkF Tryd.prog Tryd.f63 c_site_Sites_2 = true := by kernel_rfl
theorem k_flotsamref25_Ways : chkF Tryd.prog Tryd.f64 c_flotsamref25_Ways = true := by kernel_rfl
theorem k_site_words : chkF Tryd.prog Tryd.f65 c_site_words = true := by kernel_rfl
theorem k_site_may : chkF Tryd.prog Tryd.f66 c_site_may = true := by kernel_rfl
theorem k_flotsamref25_may : chkF Tryd.prog Tryd.f68 c_flotsamref25_may = true := by kernel_rfl
theorem k_num_Read : chkF Tryd.prog Tryd.f70 c_num_Read = true := by kernel_rfl
theorem k_flotsamref01_Read : chkF Tryd.prog Tryd.f71 c_flotsamref01_Read = true := by kernel_rfl
theorem k_flotsamref16_block : chkF Tryd.prog Tryd.f89 c_flotsamref16_block = true := by kernel_rfl
theorem k_flotsamref16_expr : chkF Tryd.prog Tryd.f90 c_flotsamref16_expr = true := by kernel_rfl
theorem k_site_next : chkF Tryd.prog Tryd.f91 c_site_next = true := by kernel_rfl
theorem k_tree_each_api_Proc : chkF Tryd.prog Tryd.f92 c_tree_each_api_Proc = true := by kernel_rfl
theorem k_tree_Clone_1 : chkF Tryd.prog Tryd.f93 c_tree_Clone_1 = true := by kernel_rfl
theorem k_tree_each_api_Stmt : chkF Tryd.prog Tryd.f94 c_tree_each_api_Stmt = true := by kernel_rfl
theorem k_tree_cloned : chkF Tryd.prog Tryd.f95 c_tree_cloned = true := by kernel_rfl
theorem k_tree_each_api_Oracle : chkF Tryd.prog Tryd.f96 c_tree_each_api_Oracle = true := by kernel_rfl
theorem k_tree_Clone_2 : chkF Tryd.prog Tryd.f97 c_tree_Clone_2 = true := by kernel_rfl
theorem k_tree_clonedExpr : chkF Tryd.prog Tryd.f98 c_tree_clonedExpr = true := by kernel_rfl
theorem k_flotsamref25_Block : chkF Tryd.prog Tryd.f99 c_flotsamref25_Block = true := by kernel_rfl
theorem k_site_writes : chkF Tryd.prog Tryd.f100 c_site_writes = true := by kernel_rfl
theorem k_site_torn : chkF Tryd.prog Tryd.f101 c_site_torn = true := by kernel_rfl
theorem k_site_each_1 : chkF Tryd.prog Tryd.f102 c_site_each_1 = true := by kernel_rfl
theorem k_site_each_2 : chkF Tryd.prog Tryd.f103 c_site_each_2 = true := by kernel_rfl
theorem k_flotsamref25_ways : chkF Tryd.prog Tryd.f104 c_flotsamref25_ways = true := by kernel_rfl
theorem k_tree_each_api_Expr : chkF Tryd.prog Tryd.f120 c_tree_each_api_Expr = true := by kernel_rfl

set_option maxRecDepth 100000 in
theorem fits : ∀ k af, tbl k = some af → k < yBase → (∃ fn, Tryd.prog.funcs[k]? = some fn ∧ chkF Tryd.prog fn af = true) ∧ LabC tbl af.body :=
  Tab.cons (p := fun k af => k < yBase → (∃ fn, Tryd.prog.funcs[k]? = some fn ∧ chkF Tryd.prog fn af = true) ∧ LabC tbl af.body) (fun _ => ⟨⟨_, Tryd.func6, k_flotsamlaw25_SiteTells⟩, (LabC.none rfl)⟩) <|
  Tab.cons (p := fun k af => k < yBase → (∃ fn, Tryd.prog.funcs[k]? = some fn ∧ chkF Tryd.prog fn af = true) ∧ LabC tbl af.body) (fun _ => ⟨⟨_, Tryd.func7, k_flotsamlaw25_SiteNames⟩, (LabC.none rfl)⟩) <|
  Tab.cons (p := fun k af => k < yBase → (∃ fn, Tryd.prog.funcs[k]? = some fn ∧ chkF Tryd.prog fn af = true) ∧ LabC tbl af.body) (fun _ => ⟨⟨_, Tryd.func19, k_flotsamlaw16_Small⟩, (LabC.none rfl)⟩) <|
  Tab.cons (p := fun k af => k < yBase → (∃ fn, Tryd.prog.funcs[k]? = some fn ∧ chkF Tryd.prog fn af = true) ∧ LabC tbl af.body) (fun _ => ⟨⟨_, Tryd.func20, k_flotsamlaw25_knows⟩, (LabC.none rfl)⟩) <|
  Tab.cons (p := fun k af => k < yBase → (∃ fn, Tryd.prog.funcs[k]? = some fn ∧ chkF Tryd.prog fn af = true) ∧ LabC tbl af.body) (fun _ => ⟨⟨_, Tryd.func21, k_site_At⟩, (LabC.none rfl)⟩) <|
  Tab.cons (p := fun k af => k < yBase → (∃ fn, Tryd.prog.funcs[k]? = some fn ∧ chkF Tryd.prog fn af = true) ∧ LabC tbl af.body) (fun _ => ⟨⟨_, Tryd.func22, k_flotsamref25_At⟩, (LabC.none rfl)⟩) <|
  Tab.cons (p := fun k af => k < yBase → (∃ fn, Tryd.prog.funcs[k]? = some fn ∧ chkF Tryd.prog fn af = true) ∧ LabC tbl af.body) (fun _ => ⟨⟨_, Tryd.func23, k_flotsamref16_SameStmt⟩, (LabC.none rfl)⟩) <|
  Tab.cons (p := fun k af => k < yBase → (∃ fn, Tryd.prog.funcs[k]? = some fn ∧ chkF Tryd.prog fn af = true) ∧ LabC tbl af.body) (fun _ => ⟨⟨_, Tryd.func24, k_site_Fits⟩, (LabC.none rfl)⟩) <|
  Tab.cons (p := fun k af => k < yBase → (∃ fn, Tryd.prog.funcs[k]? = some fn ∧ chkF Tryd.prog fn af = true) ∧ LabC tbl af.body) (fun _ => ⟨⟨_, Tryd.func25, k_flotsamref25_Fits⟩, (LabC.none rfl)⟩) <|
  Tab.cons (p := fun k af => k < yBase → (∃ fn, Tryd.prog.funcs[k]? = some fn ∧ chkF Tryd.prog fn af = true) ∧ LabC tbl af.body) (fun _ => ⟨⟨_, Tryd.func26, k_flotsamref25_Same⟩, (LabC.none rfl)⟩) <|
  Tab.cons (p := fun k af => k < yBase → (∃ fn, Tryd.prog.funcs[k]? = some fn ∧ chkF Tryd.prog fn af = true) ∧ LabC tbl af.body) (fun _ => ⟨⟨_, Tryd.func27, k_site_Sites⟩, (LabC.none rfl)⟩) <|
  Tab.cons (p := fun k af => k < yBase → (∃ fn, Tryd.prog.funcs[k]? = some fn ∧ chkF Tryd.prog fn af = true) ∧ LabC tbl af.body) (fun _ => ⟨⟨_, Tryd.func28, k_flotsamref25_Sites⟩, (LabC.none rfl)⟩) <|
  Tab.cons (p := fun k af => k < yBase → (∃ fn, Tryd.prog.funcs[k]? = some fn ∧ chkF Tryd.prog fn af = true) ∧ LabC tbl af.body) (fun _ => ⟨⟨_, Tryd.func29, k_site_Name⟩, (LabC.none rfl)⟩) <|
  Tab.cons (p := fun k af => k < yBase → (∃ fn, Tryd.prog.funcs[k]? = some fn ∧ chkF Tryd.prog fn af = true) ∧ LabC tbl af.body) (fun _ => ⟨⟨_, Tryd.func30, k_flotsamref25_Name⟩, (LabC.none rfl)⟩) <|
  Tab.cons (p := fun k af => k < yBase → (∃ fn, Tryd.prog.funcs[k]? = some fn ∧ chkF Tryd.prog fn af = true) ∧ LabC tbl af.body) (fun _ => ⟨⟨_, Tryd.func31, k_site_Read⟩, (LabC.none rfl)⟩) <|
  Tab.cons (p := fun k af => k < yBase → (∃ fn, Tryd.prog.funcs[k]? = some fn ∧ chkF Tryd.prog fn af = true) ∧ LabC tbl af.body) (fun _ => ⟨⟨_, Tryd.func32, k_flotsamref25_Read⟩, (LabC.none rfl)⟩) <|
  Tab.cons (p := fun k af => k < yBase → (∃ fn, Tryd.prog.funcs[k]? = some fn ∧ chkF Tryd.prog fn af = true) ∧ LabC tbl af.body) (fun _ => ⟨⟨_, Tryd.func33, k_site_Word⟩, (LabC.none rfl)⟩) <|
  Tab.cons (p := fun k af => k < yBase → (∃ fn, Tryd.prog.funcs[k]? = some fn ∧ chkF Tryd.prog fn af = true) ∧ LabC tbl af.body) (fun _ => ⟨⟨_, Tryd.func34, k_flotsamref25_Word⟩, (LabC.none rfl)⟩) <|
  Tab.cons (p := fun k af => k < yBase → (∃ fn, Tryd.prog.funcs[k]? = some fn ∧ chkF Tryd.prog fn af = true) ∧ LabC tbl af.body) (fun _ => ⟨⟨_, Tryd.func46, k_num_Digits⟩, (LabC.none rfl)⟩) <|
  Tab.cons (p := fun k af => k < yBase → (∃ fn, Tryd.prog.funcs[k]? = some fn ∧ chkF Tryd.prog fn af = true) ∧ LabC tbl af.body) (fun _ => ⟨⟨_, Tryd.func49, k_flotsamref01_Digits⟩, (LabC.none rfl)⟩) <|
  Tab.cons (p := fun k af => k < yBase → (∃ fn, Tryd.prog.funcs[k]? = some fn ∧ chkF Tryd.prog fn af = true) ∧ LabC tbl af.body) (fun _ => ⟨⟨_, Tryd.func52, k_flotsamref16_Size⟩, (LabC.none rfl)⟩) <|
  Tab.cons (p := fun k af => k < yBase → (∃ fn, Tryd.prog.funcs[k]? = some fn ∧ chkF Tryd.prog fn af = true) ∧ LabC tbl af.body) (fun _ => ⟨⟨_, Tryd.func53, k_site_lead⟩, (LabC.none rfl)⟩) <|
  Tab.cons (p := fun k af => k < yBase → (∃ fn, Tryd.prog.funcs[k]? = some fn ∧ chkF Tryd.prog fn af = true) ∧ LabC tbl af.body) (fun _ => ⟨⟨_, Tryd.func54, k_tree_Clone⟩, (LabC.none rfl)⟩) <|
  Tab.cons (p := fun k af => k < yBase → (∃ fn, Tryd.prog.funcs[k]? = some fn ∧ chkF Tryd.prog fn af = true) ∧ LabC tbl af.body) (fun _ => ⟨⟨_, Tryd.func55, k_flotsamref25_Lead⟩, (LabC.none rfl)⟩) <|
  Tab.cons (p := fun k af => k < yBase → (∃ fn, Tryd.prog.funcs[k]? = some fn ∧ chkF Tryd.prog fn af = true) ∧ LabC tbl af.body) (fun _ => ⟨⟨_, Tryd.func56, k_flotsamref16_SameExpr⟩, (LabC.none rfl)⟩) <|
  Tab.cons (p := fun k af => k < yBase → (∃ fn, Tryd.prog.funcs[k]? = some fn ∧ chkF Tryd.prog fn af = true) ∧ LabC tbl af.body) (fun _ => ⟨⟨_, Tryd.func57, k_flotsamref16_SameStmts⟩, (LabC.none rfl)⟩) <|
  Tab.cons (p := fun k af => k < yBase → (∃ fn, Tryd.prog.funcs[k]? = some fn ∧ chkF Tryd.prog fn af = true) ∧ LabC tbl af.body) (fun _ => ⟨⟨_, Tryd.func58, k_site_fits⟩, (LabC.none rfl)⟩) <|
  Tab.cons (p := fun k af => k < yBase → (∃ fn, Tryd.prog.funcs[k]? = some fn ∧ chkF Tryd.prog fn af = true) ∧ LabC tbl af.body) (fun _ => ⟨⟨_, Tryd.func59, k_flotsamref25_writes⟩, (LabC.none rfl)⟩) <|
  Tab.cons (p := fun k af => k < yBase → (∃ fn, Tryd.prog.funcs[k]? = some fn ∧ chkF Tryd.prog fn af = true) ∧ LabC tbl af.body) (fun _ => ⟨⟨_, Tryd.func60, k_site_parts⟩, (LabC.none rfl)⟩) <|
  Tab.cons (p := fun k af => k < yBase → (∃ fn, Tryd.prog.funcs[k]? = some fn ∧ chkF Tryd.prog fn af = true) ∧ LabC tbl af.body) (fun _ => ⟨⟨_, Tryd.func61, k_site_each⟩, (LabC.none rfl)⟩) <|
  Tab.cons (p := fun k af => k < yBase → (∃ fn, Tryd.prog.funcs[k]? = some fn ∧ chkF Tryd.prog fn af = true) ∧ LabC tbl af.body) (fun _ => ⟨⟨_, Tryd.func62, k_site_Sites_1⟩, (LabC.none rfl)⟩) <|
  Tab.cons (p := fun k af => k < yBase → (∃ fn, Tryd.prog.funcs[k]? = some fn ∧ chkF Tryd.prog fn af = true) ∧ LabC tbl af.body) (fun _ => ⟨⟨_, Tryd.func63, k_site_Sites_2⟩, (LabC.none rfl)⟩) <|
  Tab.cons (p := fun k af => k < yBase → (∃ fn, Tryd.prog.funcs[k]? = some fn ∧ chkF Tryd.prog fn af = true) ∧ LabC tbl af.body) (fun _ => ⟨⟨_, Tryd.func64, k_flotsamref25_Ways⟩, (LabC.none rfl)⟩) <|
  Tab.cons (p := fun k af => k < yBase → (∃ fn, Tryd.prog.funcs[k]? = some fn ∧ chkF Tryd.prog fn af = true) ∧ LabC tbl af.body) (fun _ => ⟨⟨_, Tryd.func65, k_site_words⟩, (LabC.none rfl)⟩) <|
  Tab.cons (p := fun k af => k < yBase → (∃ fn, Tryd.prog.funcs[k]? = some fn ∧ chkF Tryd.prog fn af = true) ∧ LabC tbl af.body) (fun _ => ⟨⟨_, Tryd.func66, k_site_may⟩, (LabC.none rfl)⟩) <|
  Tab.cons (p := fun k af => k < yBase → (∃ fn, Tryd.prog.funcs[k]? = some fn ∧ chkF Tryd.prog fn af = true) ∧ LabC tbl af.body) (fun _ => ⟨⟨_, Tryd.func68, k_flotsamref25_may⟩, (LabC.none rfl)⟩) <|
  Tab.cons (p := fun k af => k < yBase → (∃ fn, Tryd.prog.funcs[k]? = some fn ∧ chkF Tryd.prog fn af = true) ∧ LabC tbl af.body) (fun _ => ⟨⟨_, Tryd.func70, k_num_Read⟩, (LabC.none rfl)⟩) <|
  Tab.cons (p := fun k af => k < yBase → (∃ fn, Tryd.prog.funcs[k]? = some fn ∧ chkF Tryd.prog fn af = true) ∧ LabC tbl af.body) (fun _ => ⟨⟨_, Tryd.func71, k_flotsamref01_Read⟩, (LabC.none rfl)⟩) <|
  Tab.cons (p := fun k af => k < yBase → (∃ fn, Tryd.prog.funcs[k]? = some fn ∧ chkF Tryd.prog fn af = true) ∧ LabC tbl af.body) (fun _ => ⟨⟨_, Tryd.func89, k_flotsamref16_block⟩, (LabC.none rfl)⟩) <|
  Tab.cons (p := fun k af => k < yBase → (∃ fn, Tryd.prog.funcs[k]? = some fn ∧ chkF Tryd.prog fn af = true) ∧ LabC tbl af.body) (fun _ => ⟨⟨_, Tryd.func90, k_flotsamref16_expr⟩, (LabC.none rfl)⟩) <|
  Tab.cons (p := fun k af => k < yBase → (∃ fn, Tryd.prog.funcs[k]? = some fn ∧ chkF Tryd.prog fn af = true) ∧ LabC tbl af.body) (fun _ => ⟨⟨_, Tryd.func91, k_site_next⟩, (LabC.none rfl)⟩) <|
  Tab.cons (p := fun k af => k < yBase → (∃ fn, Tryd.prog.funcs[k]? = some fn ∧ chkF Tryd.prog fn af = true) ∧ LabC tbl af.body) (fun _ => ⟨⟨_, Tryd.func92, k_tree_each_api_Proc⟩, (LabC.none rfl)⟩) <|
  Tab.cons (p := fun k af => k < yBase → (∃ fn, Tryd.prog.funcs[k]? = some fn ∧ chkF Tryd.prog fn af = true) ∧ LabC tbl af.body) (fun _ => ⟨⟨_, Tryd.func93, k_tree_Clone_1⟩, (LabC.none rfl)⟩) <|
  Tab.cons (p := fun k af => k < yBase → (∃ fn, Tryd.prog.funcs[k]? = some fn ∧ chkF Tryd.prog fn af = true) ∧ LabC tbl af.body) (fun _ => ⟨⟨_, Tryd.func94, k_tree_each_api_Stmt⟩, (LabC.none rfl)⟩) <|
  Tab.cons (p := fun k af => k < yBase → (∃ fn, Tryd.prog.funcs[k]? = some fn ∧ chkF Tryd.prog fn af = true) ∧ LabC tbl af.body) (fun _ => ⟨⟨_, Tryd.func95, k_tree_cloned⟩, (LabC.none rfl)⟩) <|
  Tab.cons (p := fun k af => k < yBase → (∃ fn, Tryd.prog.funcs[k]? = some fn ∧ chkF Tryd.prog fn af = true) ∧ LabC tbl af.body) (fun _ => ⟨⟨_, Tryd.func96, k_tree_each_api_Oracle⟩, (LabC.none rfl)⟩) <|
  Tab.cons (p := fun k af => k < yBase → (∃ fn, Tryd.prog.funcs[k]? = some fn ∧ chkF Tryd.prog fn af = true) ∧ LabC tbl af.body) (fun _ => ⟨⟨_, Tryd.func97, k_tree_Clone_2⟩, (LabC.none rfl)⟩) <|
  Tab.cons (p := fun k af => k < yBase → (∃ fn, Tryd.prog.funcs[k]? = some fn ∧ chkF Tryd.prog fn af = true) ∧ LabC tbl af.body) (fun _ => ⟨⟨_, Tryd.func98, k_tree_clonedExpr⟩, (LabC.none rfl)⟩) <|
  Tab.cons (p := fun k af => k < yBase → (∃ fn, Tryd.prog.funcs[k]? = some fn ∧ chkF Tryd.prog fn af = true) ∧ LabC tbl af.body) (fun _ => ⟨⟨_, Tryd.func99, k_flotsamref25_Block⟩, (LabC.none rfl)⟩) <|
  Tab.cons (p := fun k af => k < yBase → (∃ fn, Tryd.prog.funcs[k]? = some fn ∧ chkF Tryd.prog fn af = true) ∧ LabC tbl af.body) (fun _ => ⟨⟨_, Tryd.func100, k_site_writes⟩, (LabC.none rfl)⟩) <|
  Tab.cons (p := fun k af => k < yBase → (∃ fn, Tryd.prog.funcs[k]? = some fn ∧ chkF Tryd.prog fn af = true) ∧ LabC tbl af.body) (fun _ => ⟨⟨_, Tryd.func101, k_site_torn⟩, (LabC.none rfl)⟩) <|
  Tab.cons (p := fun k af => k < yBase → (∃ fn, Tryd.prog.funcs[k]? = some fn ∧ chkF Tryd.prog fn af = true) ∧ LabC tbl af.body) (fun _ => ⟨⟨_, Tryd.func102, k_site_each_1⟩, (LabC.none rfl)⟩) <|
  Tab.cons (p := fun k af => k < yBase → (∃ fn, Tryd.prog.funcs[k]? = some fn ∧ chkF Tryd.prog fn af = true) ∧ LabC tbl af.body) (fun _ => ⟨⟨_, Tryd.func103, k_site_each_2⟩, (LabC.none rfl)⟩) <|
  Tab.cons (p := fun k af => k < yBase → (∃ fn, Tryd.prog.funcs[k]? = some fn ∧ chkF Tryd.prog fn af = true) ∧ LabC tbl af.body) (fun _ => ⟨⟨_, Tryd.func104, k_flotsamref25_ways⟩, (LabC.none rfl)⟩) <|
  Tab.cons (p := fun k af => k < yBase → (∃ fn, Tryd.prog.funcs[k]? = some fn ∧ chkF Tryd.prog fn af = true) ∧ LabC tbl af.body) (fun _ => ⟨⟨_, Tryd.func120, k_tree_each_api_Expr⟩, (LabC.none rfl)⟩) <|
  Tab.nil

end Go.Proofs.YtjbedlhjjhnciaaDoor
