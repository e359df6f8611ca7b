/-
  The abstract code of each function fits the loaded function; printed by a program (gen.py).
-/
import Derived.Test.YtblpgkfcllmpfaaGreatDoorCode
import Derived.Test.YtblpgkfcllmpfaaGreatDoorRun
import Derived.Test.YtblpgkfcllmpfaaGreatDoorChecked
namespace Go.Proofs.YtblpgkfcllmpfaaGreatDoor
open Go.AM

theorem k_flotsamlaw25_SiteFits : chkF Tryz.prog Tryz.f3 c_flotsamlaw25_SiteFits = true := by kernel_rfl
theorem k_flotsamlaw16_Small : chkF Tryz.prog Tryz.f4 c_flotsamlaw16_Small = true := by kernel_rfl
theorem k_flotsamlaw25_knows : chkF Tryz.prog Tryz.f5 c_flotsamlaw25_knows = true := by kernel_rfl
theorem k_site_Sites : chkF Tryz.prog Tryz.f6 c_site_Sites = true := by kernel_rfl
theorem k_site_Fits : chkF Tryz.prog Tryz.f7 c_site_Fits = true := by kernel_rfl
theorem k_site_Name : chkF Tryz.prog Tryz.f8 c_site_Name = true := by kernel_rfl
theorem k_site_Read : chkF Tryz.prog Tryz.f9 c_site_Read = true := by kernel_rfl
theorem k_tree_Right : chkF Tryz.prog Tryz.f10 c_tree_Right = true := by kernel_rfl
theorem k_flotsamref16_Size : chkF Tryz.prog Tryz.f11 c_flotsamref16_Size = true := by kernel_rfl
theorem k_site_At : chkF Tryz.prog Tryz.f12 c_site_At = true := by kernel_rfl
theorem k_site_parts : chkF Tryz.prog Tryz.f13 c_site_parts = true := by kernel_rfl
theorem k_site_each : chkF Tryz.prog Tryz.f14 c_site_each = true := by kernel_rfl
theorem k_site_Sites_1 : chkF Tryz.prog Tryz.f15 c_site_Sites_1 = true := by kernel_rfl
theorem k_site_Sites_2 : chkF Tryz.prog Tryz.f16 c_site_Sites_2 = true := by kernel_rfl
theorem k_site_fits : chkF Tryz.prog Tryz.f17 c_site_fits = true := by kernel_rfl
theorem k_site_lead : chkF Tryz.prog Tryz.f18 c_site_lead = true := by kernel_rfl
theorem k_site_words : chkF Tryz.prog Tryz.f19 c_site_words = true := by kernel_rfl
theorem k_site_may : chkF Tryz.prog Tryz.f20 c_site_may = true := by kernel_rfl
theorem k_site_Word : chkF Tryz.prog Tryz.f21 c_site_Word = true := by kernel_rfl
theorem k_num_Digits : chkF Tryz.prog Tryz.f22 c_num_Digits = true := by kernel_rfl
theorem k_num_Read : chkF Tryz.prog Tryz.f25 c_num_Read = true := by kernel_rfl
theorem k_tree_All : chkF Tryz.prog Tryz.f26 c_tree_All = true := by kernel_rfl
theorem k_tree_Right_1 : chkF Tryz.prog Tryz.f27 c_tree_Right_1 = true := by kernel_rfl
theorem k_lex_Name : chkF Tryz.prog Tryz.f28 c_lex_Name = true := by kernel_rfl
theorem k_tree_Right_2 : chkF Tryz.prog Tryz.f29 c_tree_Right_2 = true := by kernel_rfl
theorem k_tree_expr : chkF Tryz.prog Tryz.f30 c_tree_expr = true := by kernel_rfl
theorem k_tree_Right_3 : chkF Tryz.prog Tryz.f31 c_tree_Right_3 = true := by kernel_rfl
theorem k_tree_block : chkF Tryz.prog Tryz.f32 c_tree_block = true := by kernel_rfl
theorem k_slices_ContainsFunc_api_Proc_api_Proc : chkF Tryz.prog Tryz.f33 c_slices_ContainsFunc_api_Proc_api_Proc = true := by kernel_rfl
theorem k_slices_ContainsFunc_api_Oracle_api_Oracle : chkF Tryz.prog Tryz.f34 c_slices_ContainsFunc_api_Oracle_api_Oracle = true := by kernel_rfl
theorem k_slices_ContainsFunc_api_Stmt_api_Stmt : chkF Tryz.prog Tryz.f35 c_slices_ContainsFunc_api_Stmt_api_Stmt = true := by kernel_rfl
theorem k_tree_parts : chkF Tryz.prog Tryz.f36 c_tree_parts = true := by kernel_rfl
theorem k_flotsamref16_block : chkF Tryz.prog Tryz.f37 c_flotsamref16_block = true := by kernel_rfl
theorem k_flotsamref16_expr : chkF Tryz.prog Tryz.f38 c_flotsamref16_expr = true := by kernel_rfl
theorem k_tree_Clone : chkF Tryz.prog Tryz.f39 c_tree_Clone = true := by kernel_rfl
theorem k_site_each_1 : chkF Tryz.prog Tryz.f40 c_site_each_1 = true := by kernel_rfl
theorem k_site_each_2 : chkF Tryz.prog Tryz.f41 c_site_each_2 = true := by kernel_rfl
theorem k_site_writes : chkF Tryz.prog Tryz.f42 c_site_writes = true := by kernel_rfl
theorem k_site_torn : chkF Tryz.prog Tryz.f43 c_site_torn = true := by kernel_rfl
theorem k_site_next : chkF Tryz.prog Tryz.f44 c_site_next = true := by kernel_rfl
theorem k_tree_walk : chkF Tryz.prog Tryz.f50 c_tree_walk = true := by kernel_rfl
theorem k_tree_cloned : chkF Tryz.prog Tryz.f51 c_tree_cloned = true := by kernel_rfl
theorem k_lex_begins : chkF Tryz.prog Tryz.f52 c_lex_begins = true := by kernel_rfl
theorem k_lex_letter : chkF Tryz.prog Tryz.f53 c_lex_letter = true := by kernel_rfl
theorem k_lex_inner : chkF Tryz.prog Tryz.f55 c_lex_inner = true := by kernel_rfl
theorem k_lex_Key : chkF Tryz.prog Tryz.f56 c_lex_Key = true := by kernel_rfl
theorem k_tree_Parts : chkF Tryz.prog Tryz.f57 c_tree_Parts = true := by kernel_rfl
theorem k_slices_ContainsFunc_api_Expr_api_Expr : chkF Tryz.prog Tryz.f58 c_slices_ContainsFunc_api_Expr_api_Expr = true := by kernel_rfl
theorem k_tree_expr_1 : chkF Tryz.prog Tryz.f59 c_tree_expr_1 = true := by kernel_rfl
theorem k_slices_ContainsFunc_api_Stmt_api_Stmt_x : chkF Tryz.prog Tryz.f60 c_slices_ContainsFunc_api_Stmt_api_Stmt_x = true := by kernel_rfl
theorem k_tree_block_1 : chkF Tryz.prog Tryz.f61 c_tree_block_1 = true := by kernel_rfl
theorem k_tree_stmt : chkF Tryz.prog Tryz.f62 c_tree_stmt = true := by kernel_rfl
theorem k_slices_IndexFunc_api_Proc_api_Proc : chkF Tryz.prog Tryz.f63 c_slices_IndexFunc_api_Proc_api_Proc = true := by kernel_rfl
theorem k_slices_IndexFunc_api_Oracle_api_Oracle : chkF Tryz.prog Tryz.f64 c_slices_IndexFunc_api_Oracle_api_Oracle = true := by kernel_rfl
theorem k_slices_IndexFunc_api_Stmt_api_Stmt : chkF Tryz.prog Tryz.f65 c_slices_IndexFunc_api_Stmt_api_Stmt = true := by kernel_rfl
theorem k_tree_each_api_Proc : chkF Tryz.prog Tryz.f66 c_tree_each_api_Proc = true := by kernel_rfl
theorem k_tree_Clone_1 : chkF Tryz.prog Tryz.f67 c_tree_Clone_1 = true := by kernel_rfl
theorem k_tree_each_api_Stmt : chkF Tryz.prog Tryz.f68 c_tree_each_api_Stmt = true := by kernel_rfl
theorem k_tree_each_api_Oracle : chkF Tryz.prog Tryz.f69 c_tree_each_api_Oracle = true := by kernel_rfl
theorem k_tree_Clone_2 : chkF Tryz.prog Tryz.f70 c_tree_Clone_2 = true := by kernel_rfl
theorem k_tree_clonedExpr : chkF Tryz.prog Tryz.f71 c_tree_clonedExpr = true := by kernel_rfl
theorem k_tree_walk_1 : chkF Tryz.prog Tryz.f79 c_tree_walk_1 = true := by kernel_rfl
theorem k_tree_each_api_Expr : chkF Tryz.prog Tryz.f80 c_tree_each_api_Expr = true := by kernel_rfl
theorem k_lex_digit : chkF Tryz.prog Tryz.f83 c_lex_digit = true := by kernel_rfl
theorem k_slices_IndexFunc_api_Expr_api_Expr : chkF Tryz.prog Tryz.f85 c_slices_IndexFunc_api_Expr_api_Expr = true := by kernel_rfl
theorem k_slices_IndexFunc_api_Stmt_api_Stmt_x : chkF Tryz.prog Tryz.f86 c_slices_IndexFunc_api_Stmt_api_Stmt_x = true := by kernel_rfl
theorem k_tree_shape : chkF Tryz.prog Tryz.f87 c_tree_shape = true := by kernel_rfl
theorem k_tree_stmt_1 : chkF Tryz.prog Tryz.f88 c_tree_stmt_1 = true := by kernel_rfl
theorem k_tree_Exprs : chkF Tryz.prog Tryz.f97 c_tree_Exprs = true := by kernel_rfl
theorem k_tree_blocks : chkF Tryz.prog Tryz.f98 c_tree_blocks = true := by kernel_rfl
theorem k_tree_shape_1 : chkF Tryz.prog Tryz.f99 c_tree_shape_1 = true := by kernel_rfl
theorem lab_tree_All : LabC tbl c_tree_All.body := LabC.list (l := [(q_tree_All_0, a_tree_All_0, y_tree_All_0)]) (by kernel_rfl) ⟨u_tree_All_0, trivial⟩
theorem lab_tree_walk_1 : LabC tbl c_tree_walk_1.body := LabC.list (l := [(q_tree_walk_1_0, a_tree_walk_1_0, y_tree_walk_1_0)]) (by kernel_rfl) ⟨u_tree_walk_1_0, trivial⟩

set_option maxRecDepth 100000 in
theorem fits : ∀ k af, tbl k = some af → k < yBase → (∃ fn, Tryz.prog.funcs[k]? = some fn ∧ chkF Tryz.prog fn af = true) ∧ LabC tbl af.body :=
  Tab.cons (p := fun k af => k < yBase → (∃ fn, Tryz.prog.funcs[k]? = some fn ∧ chkF Tryz.prog fn af = true) ∧ LabC tbl af.body) (fun _ => ⟨⟨_, Tryz.func3, k_flotsamlaw25_SiteFits⟩, (LabC.none rfl)⟩) <|
  Tab.cons (p := fun k af => k < yBase → (∃ fn, Tryz.prog.funcs[k]? = some fn ∧ chkF Tryz.prog fn af = true) ∧ LabC tbl af.body) (fun _ => ⟨⟨_, Tryz.func4, k_flotsamlaw16_Small⟩, (LabC.none rfl)⟩) <|
  Tab.cons (p := fun k af => k < yBase → (∃ fn, Tryz.prog.funcs[k]? = some fn ∧ chkF Tryz.prog fn af = true) ∧ LabC tbl af.body) (fun _ => ⟨⟨_, Tryz.func5, k_flotsamlaw25_knows⟩, (LabC.none rfl)⟩) <|
  Tab.cons (p := fun k af => k < yBase → (∃ fn, Tryz.prog.funcs[k]? = some fn ∧ chkF Tryz.prog fn af = true) ∧ LabC tbl af.body) (fun _ => ⟨⟨_, Tryz.func6, k_site_Sites⟩, (LabC.none rfl)⟩) <|
  Tab.cons (p := fun k af => k < yBase → (∃ fn, Tryz.prog.funcs[k]? = some fn ∧ chkF Tryz.prog fn af = true) ∧ LabC tbl af.body) (fun _ => ⟨⟨_, Tryz.func7, k_site_Fits⟩, (LabC.none rfl)⟩) <|
  Tab.cons (p := fun k af => k < yBase → (∃ fn, Tryz.prog.funcs[k]? = some fn ∧ chkF Tryz.prog fn af = true) ∧ LabC tbl af.body) (fun _ => ⟨⟨_, Tryz.func8, k_site_Name⟩, (LabC.none rfl)⟩) <|
  Tab.cons (p := fun k af => k < yBase → (∃ fn, Tryz.prog.funcs[k]? = some fn ∧ chkF Tryz.prog fn af = true) ∧ LabC tbl af.body) (fun _ => ⟨⟨_, Tryz.func9, k_site_Read⟩, (LabC.none rfl)⟩) <|
  Tab.cons (p := fun k af => k < yBase → (∃ fn, Tryz.prog.funcs[k]? = some fn ∧ chkF Tryz.prog fn af = true) ∧ LabC tbl af.body) (fun _ => ⟨⟨_, Tryz.func10, k_tree_Right⟩, (LabC.none rfl)⟩) <|
  Tab.cons (p := fun k af => k < yBase → (∃ fn, Tryz.prog.funcs[k]? = some fn ∧ chkF Tryz.prog fn af = true) ∧ LabC tbl af.body) (fun _ => ⟨⟨_, Tryz.func11, k_flotsamref16_Size⟩, (LabC.none rfl)⟩) <|
  Tab.cons (p := fun k af => k < yBase → (∃ fn, Tryz.prog.funcs[k]? = some fn ∧ chkF Tryz.prog fn af = true) ∧ LabC tbl af.body) (fun _ => ⟨⟨_, Tryz.func12, k_site_At⟩, (LabC.none rfl)⟩) <|
  Tab.cons (p := fun k af => k < yBase → (∃ fn, Tryz.prog.funcs[k]? = some fn ∧ chkF Tryz.prog fn af = true) ∧ LabC tbl af.body) (fun _ => ⟨⟨_, Tryz.func13, k_site_parts⟩, (LabC.none rfl)⟩) <|
  Tab.cons (p := fun k af => k < yBase → (∃ fn, Tryz.prog.funcs[k]? = some fn ∧ chkF Tryz.prog fn af = true) ∧ LabC tbl af.body) (fun _ => ⟨⟨_, Tryz.func14, k_site_each⟩, (LabC.none rfl)⟩) <|
  Tab.cons (p := fun k af => k < yBase → (∃ fn, Tryz.prog.funcs[k]? = some fn ∧ chkF Tryz.prog fn af = true) ∧ LabC tbl af.body) (fun _ => ⟨⟨_, Tryz.func15, k_site_Sites_1⟩, (LabC.none rfl)⟩) <|
  Tab.cons (p := fun k af => k < yBase → (∃ fn, Tryz.prog.funcs[k]? = some fn ∧ chkF Tryz.prog fn af = true) ∧ LabC tbl af.body) (fun _ => ⟨⟨_, Tryz.func16, k_site_Sites_2⟩, (LabC.none rfl)⟩) <|
  Tab.cons (p := fun k af => k < yBase → (∃ fn, Tryz.prog.funcs[k]? = some fn ∧ chkF Tryz.prog fn af = true) ∧ LabC tbl af.body) (fun _ => ⟨⟨_, Tryz.func17, k_site_fits⟩, (LabC.none rfl)⟩) <|
  Tab.cons (p := fun k af => k < yBase → (∃ fn, Tryz.prog.funcs[k]? = some fn ∧ chkF Tryz.prog fn af = true) ∧ LabC tbl af.body) (fun _ => ⟨⟨_, Tryz.func18, k_site_lead⟩, (LabC.none rfl)⟩) <|
  Tab.cons (p := fun k af => k < yBase → (∃ fn, Tryz.prog.funcs[k]? = some fn ∧ chkF Tryz.prog fn af = true) ∧ LabC tbl af.body) (fun _ => ⟨⟨_, Tryz.func19, k_site_words⟩, (LabC.none rfl)⟩) <|
  Tab.cons (p := fun k af => k < yBase → (∃ fn, Tryz.prog.funcs[k]? = some fn ∧ chkF Tryz.prog fn af = true) ∧ LabC tbl af.body) (fun _ => ⟨⟨_, Tryz.func20, k_site_may⟩, (LabC.none rfl)⟩) <|
  Tab.cons (p := fun k af => k < yBase → (∃ fn, Tryz.prog.funcs[k]? = some fn ∧ chkF Tryz.prog fn af = true) ∧ LabC tbl af.body) (fun _ => ⟨⟨_, Tryz.func21, k_site_Word⟩, (LabC.none rfl)⟩) <|
  Tab.cons (p := fun k af => k < yBase → (∃ fn, Tryz.prog.funcs[k]? = some fn ∧ chkF Tryz.prog fn af = true) ∧ LabC tbl af.body) (fun _ => ⟨⟨_, Tryz.func22, k_num_Digits⟩, (LabC.none rfl)⟩) <|
  Tab.cons (p := fun k af => k < yBase → (∃ fn, Tryz.prog.funcs[k]? = some fn ∧ chkF Tryz.prog fn af = true) ∧ LabC tbl af.body) (fun _ => ⟨⟨_, Tryz.func25, k_num_Read⟩, (LabC.none rfl)⟩) <|
  Tab.cons (p := fun k af => k < yBase → (∃ fn, Tryz.prog.funcs[k]? = some fn ∧ chkF Tryz.prog fn af = true) ∧ LabC tbl af.body) (fun _ => ⟨⟨_, Tryz.func26, k_tree_All⟩, lab_tree_All⟩) <|
  Tab.cons (p := fun k af => k < yBase → (∃ fn, Tryz.prog.funcs[k]? = some fn ∧ chkF Tryz.prog fn af = true) ∧ LabC tbl af.body) (fun _ => ⟨⟨_, Tryz.func27, k_tree_Right_1⟩, (LabC.none rfl)⟩) <|
  Tab.cons (p := fun k af => k < yBase → (∃ fn, Tryz.prog.funcs[k]? = some fn ∧ chkF Tryz.prog fn af = true) ∧ LabC tbl af.body) (fun _ => ⟨⟨_, Tryz.func28, k_lex_Name⟩, (LabC.none rfl)⟩) <|
  Tab.cons (p := fun k af => k < yBase → (∃ fn, Tryz.prog.funcs[k]? = some fn ∧ chkF Tryz.prog fn af = true) ∧ LabC tbl af.body) (fun _ => ⟨⟨_, Tryz.func29, k_tree_Right_2⟩, (LabC.none rfl)⟩) <|
  Tab.cons (p := fun k af => k < yBase → (∃ fn, Tryz.prog.funcs[k]? = some fn ∧ chkF Tryz.prog fn af = true) ∧ LabC tbl af.body) (fun _ => ⟨⟨_, Tryz.func30, k_tree_expr⟩, (LabC.none rfl)⟩) <|
  Tab.cons (p := fun k af => k < yBase → (∃ fn, Tryz.prog.funcs[k]? = some fn ∧ chkF Tryz.prog fn af = true) ∧ LabC tbl af.body) (fun _ => ⟨⟨_, Tryz.func31, k_tree_Right_3⟩, (LabC.none rfl)⟩) <|
  Tab.cons (p := fun k af => k < yBase → (∃ fn, Tryz.prog.funcs[k]? = some fn ∧ chkF Tryz.prog fn af = true) ∧ LabC tbl af.body) (fun _ => ⟨⟨_, Tryz.func32, k_tree_block⟩, (LabC.none rfl)⟩) <|
  Tab.cons (p := fun k af => k < yBase → (∃ fn, Tryz.prog.funcs[k]? = some fn ∧ chkF Tryz.prog fn af = true) ∧ LabC tbl af.body) (fun _ => ⟨⟨_, Tryz.func33, k_slices_ContainsFunc_api_Proc_api_Proc⟩, (LabC.none rfl)⟩) <|
  Tab.cons (p := fun k af => k < yBase → (∃ fn, Tryz.prog.funcs[k]? = some fn ∧ chkF Tryz.prog fn af = true) ∧ LabC tbl af.body) (fun _ => ⟨⟨_, Tryz.func34, k_slices_ContainsFunc_api_Oracle_api_Oracle⟩, (LabC.none rfl)⟩) <|
  Tab.cons (p := fun k af => k < yBase → (∃ fn, Tryz.prog.funcs[k]? = some fn ∧ chkF Tryz.prog fn af = true) ∧ LabC tbl af.body) (fun _ => ⟨⟨_, Tryz.func35, k_slices_ContainsFunc_api_Stmt_api_Stmt⟩, (LabC.none rfl)⟩) <|
  Tab.cons (p := fun k af => k < yBase → (∃ fn, Tryz.prog.funcs[k]? = some fn ∧ chkF Tryz.prog fn af = true) ∧ LabC tbl af.body) (fun _ => ⟨⟨_, Tryz.func36, k_tree_parts⟩, (LabC.none rfl)⟩) <|
  Tab.cons (p := fun k af => k < yBase → (∃ fn, Tryz.prog.funcs[k]? = some fn ∧ chkF Tryz.prog fn af = true) ∧ LabC tbl af.body) (fun _ => ⟨⟨_, Tryz.func37, k_flotsamref16_block⟩, (LabC.none rfl)⟩) <|
  Tab.cons (p := fun k af => k < yBase → (∃ fn, Tryz.prog.funcs[k]? = some fn ∧ chkF Tryz.prog fn af = true) ∧ LabC tbl af.body) (fun _ => ⟨⟨_, Tryz.func38, k_flotsamref16_expr⟩, (LabC.none rfl)⟩) <|
  Tab.cons (p := fun k af => k < yBase → (∃ fn, Tryz.prog.funcs[k]? = some fn ∧ chkF Tryz.prog fn af = true) ∧ LabC tbl af.body) (fun _ => ⟨⟨_, Tryz.func39, k_tree_Clone⟩, (LabC.none rfl)⟩) <|
  Tab.cons (p := fun k af => k < yBase → (∃ fn, Tryz.prog.funcs[k]? = some fn ∧ chkF Tryz.prog fn af = true) ∧ LabC tbl af.body) (fun _ => ⟨⟨_, Tryz.func40, k_site_each_1⟩, (LabC.none rfl)⟩) <|
  Tab.cons (p := fun k af => k < yBase → (∃ fn, Tryz.prog.funcs[k]? = some fn ∧ chkF Tryz.prog fn af = true) ∧ LabC tbl af.body) (fun _ => ⟨⟨_, Tryz.func41, k_site_each_2⟩, (LabC.none rfl)⟩) <|
  Tab.cons (p := fun k af => k < yBase → (∃ fn, Tryz.prog.funcs[k]? = some fn ∧ chkF Tryz.prog fn af = true) ∧ LabC tbl af.body) (fun _ => ⟨⟨_, Tryz.func42, k_site_writes⟩, (LabC.none rfl)⟩) <|
  Tab.cons (p := fun k af => k < yBase → (∃ fn, Tryz.prog.funcs[k]? = some fn ∧ chkF Tryz.prog fn af = true) ∧ LabC tbl af.body) (fun _ => ⟨⟨_, Tryz.func43, k_site_torn⟩, (LabC.none rfl)⟩) <|
  Tab.cons (p := fun k af => k < yBase → (∃ fn, Tryz.prog.funcs[k]? = some fn ∧ chkF Tryz.prog fn af = true) ∧ LabC tbl af.body) (fun _ => ⟨⟨_, Tryz.func44, k_site_next⟩, (LabC.none rfl)⟩) <|
  Tab.cons (p := fun k af => k < yBase → (∃ fn, Tryz.prog.funcs[k]? = some fn ∧ chkF Tryz.prog fn af = true) ∧ LabC tbl af.body) (fun _ => ⟨⟨_, Tryz.func50, k_tree_walk⟩, (LabC.none rfl)⟩) <|
  Tab.cons (p := fun k af => k < yBase → (∃ fn, Tryz.prog.funcs[k]? = some fn ∧ chkF Tryz.prog fn af = true) ∧ LabC tbl af.body) (fun _ => ⟨⟨_, Tryz.func51, k_tree_cloned⟩, (LabC.none rfl)⟩) <|
  Tab.cons (p := fun k af => k < yBase → (∃ fn, Tryz.prog.funcs[k]? = some fn ∧ chkF Tryz.prog fn af = true) ∧ LabC tbl af.body) (fun _ => ⟨⟨_, Tryz.func52, k_lex_begins⟩, (LabC.none rfl)⟩) <|
  Tab.cons (p := fun k af => k < yBase → (∃ fn, Tryz.prog.funcs[k]? = some fn ∧ chkF Tryz.prog fn af = true) ∧ LabC tbl af.body) (fun _ => ⟨⟨_, Tryz.func53, k_lex_letter⟩, (LabC.none rfl)⟩) <|
  Tab.cons (p := fun k af => k < yBase → (∃ fn, Tryz.prog.funcs[k]? = some fn ∧ chkF Tryz.prog fn af = true) ∧ LabC tbl af.body) (fun _ => ⟨⟨_, Tryz.func55, k_lex_inner⟩, (LabC.none rfl)⟩) <|
  Tab.cons (p := fun k af => k < yBase → (∃ fn, Tryz.prog.funcs[k]? = some fn ∧ chkF Tryz.prog fn af = true) ∧ LabC tbl af.body) (fun _ => ⟨⟨_, Tryz.func56, k_lex_Key⟩, (LabC.none rfl)⟩) <|
  Tab.cons (p := fun k af => k < yBase → (∃ fn, Tryz.prog.funcs[k]? = some fn ∧ chkF Tryz.prog fn af = true) ∧ LabC tbl af.body) (fun _ => ⟨⟨_, Tryz.func57, k_tree_Parts⟩, (LabC.none rfl)⟩) <|
  Tab.cons (p := fun k af => k < yBase → (∃ fn, Tryz.prog.funcs[k]? = some fn ∧ chkF Tryz.prog fn af = true) ∧ LabC tbl af.body) (fun _ => ⟨⟨_, Tryz.func58, k_slices_ContainsFunc_api_Expr_api_Expr⟩, (LabC.none rfl)⟩) <|
  Tab.cons (p := fun k af => k < yBase → (∃ fn, Tryz.prog.funcs[k]? = some fn ∧ chkF Tryz.prog fn af = true) ∧ LabC tbl af.body) (fun _ => ⟨⟨_, Tryz.func59, k_tree_expr_1⟩, (LabC.none rfl)⟩) <|
  Tab.cons (p := fun k af => k < yBase → (∃ fn, Tryz.prog.funcs[k]? = some fn ∧ chkF Tryz.prog fn af = true) ∧ LabC tbl af.body) (fun _ => ⟨⟨_, Tryz.func60, k_slices_ContainsFunc_api_Stmt_api_Stmt_x⟩, (LabC.none rfl)⟩) <|
  Tab.cons (p := fun k af => k < yBase → (∃ fn, Tryz.prog.funcs[k]? = some fn ∧ chkF Tryz.prog fn af = true) ∧ LabC tbl af.body) (fun _ => ⟨⟨_, Tryz.func61, k_tree_block_1⟩, (LabC.none rfl)⟩) <|
  Tab.cons (p := fun k af => k < yBase → (∃ fn, Tryz.prog.funcs[k]? = some fn ∧ chkF Tryz.prog fn af = true) ∧ LabC tbl af.body) (fun _ => ⟨⟨_, Tryz.func62, k_tree_stmt⟩, (LabC.none rfl)⟩) <|
  Tab.cons (p := fun k af => k < yBase → (∃ fn, Tryz.prog.funcs[k]? = some fn ∧ chkF Tryz.prog fn af = true) ∧ LabC tbl af.body) (fun _ => ⟨⟨_, Tryz.func63, k_slices_IndexFunc_api_Proc_api_Proc⟩, (LabC.none rfl)⟩) <|
  Tab.cons (p := fun k af => k < yBase → (∃ fn, Tryz.prog.funcs[k]? = some fn ∧ chkF Tryz.prog fn af = true) ∧ LabC tbl af.body) (fun _ => ⟨⟨_, Tryz.func64, k_slices_IndexFunc_api_Oracle_api_Oracle⟩, (LabC.none rfl)⟩) <|
  Tab.cons (p := fun k af => k < yBase → (∃ fn, Tryz.prog.funcs[k]? = some fn ∧ chkF Tryz.prog fn af = true) ∧ LabC tbl af.body) (fun _ => ⟨⟨_, Tryz.func65, k_slices_IndexFunc_api_Stmt_api_Stmt⟩, (LabC.none rfl)⟩) <|
  Tab.cons (p := fun k af => k < yBase → (∃ fn, Tryz.prog.funcs[k]? = some fn ∧ chkF Tryz.prog fn af = true) ∧ LabC tbl af.body) (fun _ => ⟨⟨_, Tryz.func66, k_tree_each_api_Proc⟩, (LabC.none rfl)⟩) <|
  Tab.cons (p := fun k af => k < yBase → (∃ fn, Tryz.prog.funcs[k]? = some fn ∧ chkF Tryz.prog fn af = true) ∧ LabC tbl af.body) (fun _ => ⟨⟨_, Tryz.func67, k_tree_Clone_1⟩, (LabC.none rfl)⟩) <|
  Tab.cons (p := fun k af => k < yBase → (∃ fn, Tryz.prog.funcs[k]? = some fn ∧ chkF Tryz.prog fn af = true) ∧ LabC tbl af.body) (fun _ => ⟨⟨_, Tryz.func68, k_tree_each_api_Stmt⟩, (LabC.none rfl)⟩) <|
  Tab.cons (p := fun k af => k < yBase → (∃ fn, Tryz.prog.funcs[k]? = some fn ∧ chkF Tryz.prog fn af = true) ∧ LabC tbl af.body) (fun _ => ⟨⟨_, Tryz.func69, k_tree_each_api_Oracle⟩, (LabC.none rfl)⟩) <|
  Tab.cons (p := fun k af => k < yBase → (∃ fn, Tryz.prog.funcs[k]? = some fn ∧ chkF Tryz.prog fn af = true) ∧ LabC tbl af.body) (fun _ => ⟨⟨_, Tryz.func70, k_tree_Clone_2⟩, (LabC.none rfl)⟩) <|
  Tab.cons (p := fun k af => k < yBase → (∃ fn, Tryz.prog.funcs[k]? = some fn ∧ chkF Tryz.prog fn af = true) ∧ LabC tbl af.body) (fun _ => ⟨⟨_, Tryz.func71, k_tree_clonedExpr⟩, (LabC.none rfl)⟩) <|
  Tab.cons (p := fun k af => k < yBase → (∃ fn, Tryz.prog.funcs[k]? = some fn ∧ chkF Tryz.prog fn af = true) ∧ LabC tbl af.body) (fun _ => ⟨⟨_, Tryz.func79, k_tree_walk_1⟩, lab_tree_walk_1⟩) <|
  Tab.cons (p := fun k af => k < yBase → (∃ fn, Tryz.prog.funcs[k]? = some fn ∧ chkF Tryz.prog fn af = true) ∧ LabC tbl af.body) (fun _ => ⟨⟨_, Tryz.func80, k_tree_each_api_Expr⟩, (LabC.none rfl)⟩) <|
  Tab.cons (p := fun k af => k < yBase → (∃ fn, Tryz.prog.funcs[k]? = some fn ∧ chkF Tryz.prog fn af = true) ∧ LabC tbl af.body) (fun _ => ⟨⟨_, Tryz.func83, k_lex_digit⟩, (LabC.none rfl)⟩) <|
  Tab.cons (p := fun k af => k < yBase → (∃ fn, Tryz.prog.funcs[k]? = some fn ∧ chkF Tryz.prog fn af = true) ∧ LabC tbl af.body) (fun _ => ⟨⟨_, Tryz.func85, k_slices_IndexFunc_api_Expr_api_Expr⟩, (LabC.none rfl)⟩) <|
  Tab.cons (p := fun k af => k < yBase → (∃ fn, Tryz.prog.funcs[k]? = some fn ∧ chkF Tryz.prog fn af = true) ∧ LabC tbl af.body) (fun _ => ⟨⟨_, Tryz.func86, k_slices_IndexFunc_api_Stmt_api_Stmt_x⟩, (LabC.none rfl)⟩) <|
  Tab.cons (p := fun k af => k < yBase → (∃ fn, Tryz.prog.funcs[k]? = some fn ∧ chkF Tryz.prog fn af = true) ∧ LabC tbl af.body) (fun _ => ⟨⟨_, Tryz.func87, k_tree_shape⟩, (LabC.none rfl)⟩) <|
  Tab.cons (p := fun k af => k < yBase → (∃ fn, Tryz.prog.funcs[k]? = some fn ∧ chkF Tryz.prog fn af = true) ∧ LabC tbl af.body) (fun _ => ⟨⟨_, Tryz.func88, k_tree_stmt_1⟩, (LabC.none rfl)⟩) <|
  Tab.cons (p := fun k af => k < yBase → (∃ fn, Tryz.prog.funcs[k]? = some fn ∧ chkF Tryz.prog fn af = true) ∧ LabC tbl af.body) (fun _ => ⟨⟨_, Tryz.func97, k_tree_Exprs⟩, (LabC.none rfl)⟩) <|
  Tab.cons (p := fun k af => k < yBase → (∃ fn, Tryz.prog.funcs[k]? = some fn ∧ chkF Tryz.prog fn af = true) ∧ LabC tbl af.body) (fun _ => ⟨⟨_, Tryz.func98, k_tree_blocks⟩, (LabC.none rfl)⟩) <|
  Tab.cons (p := fun k af => k < yBase → (∃ fn, Tryz.prog.funcs[k]? = some fn ∧ chkF Tryz.prog fn af = true) ∧ LabC tbl af.body) (fun _ => ⟨⟨_, Tryz.func99, k_tree_shape_1⟩, (LabC.none rfl)⟩) <|
  Tab.cons (p := fun k af => k < yBase → (∃ fn, Tryz.prog.funcs[k]? = some fn ∧ chkF Tryz.prog fn af = true) ∧ LabC tbl af.body) (fun h => absurd h (Nat.not_lt.2 (Nat.le_of_ble_eq_true rfl))) <|
  Tab.cons (p := fun k af => k < yBase → (∃ fn, Tryz.prog.funcs[k]? = some fn ∧ chkF Tryz.prog fn af = true) ∧ LabC tbl af.body) (fun h => absurd h (Nat.not_lt.2 (Nat.le_of_ble_eq_true rfl))) <|
  Tab.nil

end Go.Proofs.YtblpgkfcllmpfaaGreatDoor
