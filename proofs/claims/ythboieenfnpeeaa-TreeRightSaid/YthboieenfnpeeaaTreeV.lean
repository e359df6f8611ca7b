/-
  Which programs are right: what the program's and the document's functions answer. And the law TreeRight.
-/
import Derived.Test.YthboieenfnpeeaaTreeU
import Derived.Test.YthboieenfnpeeaaTreeE
namespace Go.AM.Spec
set_option linter.unusedVariables false
set_option linter.unusedSimpArgs false
set_option maxHeartbeats 4000000
set_option maxRecDepth 10000

def Pg.ok (p : Pg) : Bool :=
  decide (p.procs.length ≤ 16) && (decide (p.oracles.length ≤ 16) && (decide (p.flats.length ≤ 256) &&
    ((p.procs.all fun x => isName x.1 && Sm.oks x.2 1) && ((p.oracles.all fun x => isName x.1 && x.2.ok 8) && (Sm.oks p.main 1 && Sm.oks p.recover 1)))))

theorem Right_1_eq (x : List UInt8 × List Sm) (hx : x.1.length ≤ 300) (K : Heap) : eval tbl noExt n_tree_Right_1 [.agg [.str x.1, .sl 7 (Sm.rows x.2)]] K = some (.bool (!isName x.1), K) := by
  have hN := Name_eq x.1 (by omega)
  rw [eval_M rfl rfl t_tree_Right_1 rfl]
  simp [c_tree_Right_1, get0, hN, lt_lex_Name]

theorem Right_2_eq (x : List UInt8 × Ex) (hx : x.1.length ≤ 300) (he : ExOK 8 x.2) (K : Heap) : eval tbl noExt n_tree_Right_2 [.agg (.str x.1 :: x.2.cells)] K = some (.bool (!(isName x.1 && x.2.ok 8)), K) := by
  have hN := Name_eq x.1 (by omega)
  have he0 := he []
  obtain ⟨s, e⟩ := x
  obtain ⟨op, n, t, y⟩ := e
  simp only [Ex.cells, Int.cast_ofNat_Int] at he0 hN ⊢
  rw [eval_M rfl rfl t_tree_Right_2 rfl]
  cases hb : isName s with
  | false =>
    rw [hb] at hN
    simp [c_tree_Right_2, get0, hN, lt_lex_Name]
  | true =>
    rw [hb] at hN
    simp [c_tree_Right_2, get0, hN, lt_lex_Name, he0, lt_tree_expr]

theorem Right_3_eq (b : List Sm) (hb : BlOK 1 b) (K : Heap) : eval tbl noExt n_tree_Right_3 [.sl 7 (Sm.rows b)] K = some (.bool (!Sm.oks b 1), K) := by
  have h0 := hb []
  simp only [Int.cast_ofNat_Int] at h0
  rw [eval_M rfl rfl t_tree_Right_3 rfl]
  simp [c_tree_Right_3, h0, lt_tree_block]

/-- What is asked of a program's parts. -/
structure Pg.Fine (p : Pg) : Prop where
  size : p.size ≤ 800
  txt : p.txt

theorem Pg.Fine.proc {p : Pg} (h : p.Fine) {x : List UInt8 × List Sm} (hx : x ∈ p.procs) : BlOK 1 x.2 ∧ RbOK 1 x.2 := by
  have hs := p.parts_size
  have hm : x.2 ∈ p.parts := by simp only [Pg.parts, List.mem_append, List.mem_map]; exact .inl ⟨x, hx, rfl⟩
  have := sizes_flatten hm
  have := h.size
  exact stmt_both 800 x.2 (by omega) (by omega) (h.txt.1 x hx).2 1 (by omega)
theorem Pg.Fine.main {p : Pg} (h : p.Fine) : BlOK 1 p.main ∧ RbOK 1 p.main := by
  have := h.size
  exact stmt_both 800 p.main (by simp only [Pg.size] at this; omega) (by omega) h.txt.2.1 1 (by omega)
theorem Pg.Fine.recover {p : Pg} (h : p.Fine) : BlOK 1 p.recover ∧ RbOK 1 p.recover := by
  have := h.size
  exact stmt_both 800 p.recover (by simp only [Pg.size] at this; omega) (by omega) h.txt.2.2.1 1 (by omega)
theorem Pg.Fine.oracle {p : Pg} (h : p.Fine) {x : List UInt8 × Ex} (hx : x ∈ p.oracles) : ExOK 8 x.2 ∧ RxOK 8 x.2 := by
  have hs := p.size_eq
  have hm : x.2 ∈ p.exprs := by simp only [Pg.exprs, List.mem_map]; exact ⟨x, hx, rfl⟩
  have := Ex.sizes_mem hm
  have := h.size
  exact expr_both 800 x.2 (by omega) (by omega) (h.txt.2.2.2 x hx).2 8 (by omega)
theorem Pg.Fine.part {p : Pg} (h : p.Fine) {b : List Sm} (hb : b ∈ p.parts) : BlOK 1 b := by
  simp only [Pg.parts, List.mem_append, List.mem_map, List.mem_cons, List.not_mem_nil, or_false] at hb
  rcases hb with ⟨x, hx, rfl⟩ | rfl | rfl
  · exact (h.proc hx).1
  · exact h.main.1
  · exact h.recover.1
theorem Pg.lens (p : Pg) (h : p.size ≤ 800) : p.procs.length ≤ 800 ∧ p.oracles.length ≤ 800 ∧ p.parts.length ≤ 1000 := by
  have hs := p.size_eq
  simp only [Pg.parts, List.length_append, List.length_map, List.length_cons, List.length_nil]
  omega

theorem Right_eq (p : Pg) (h : p.Fine) (H : Heap) : eval tbl noExt n_tree_Right [.agg p.cells] H = some (.bool p.ok, H) := by
  have hl := p.lens h.size
  have hsz := h.size
  have ha := All_eq p (by omega)
  have h1 : ∀ K, eval tbl noExt n_slices_ContainsFunc_api_Proc_api_Proc [.sl 2 p.pcells, .fn (.func n_tree_Right_1) [] []] K = some (.bool (!(p.procs.all fun x => isName x.1)), K) := by
    intro K
    rw [← any_not]
    exact ContainsFunc_api_Proc_api_Proc (first := []) (cap := []) lt_tree_Right_1 (fun x : List UInt8 × List Sm => [V.str x.1, .sl 7 (Sm.rows x.2)]) p.procs (by omega) (fun x => !isName x.1) K (fun x _ => by simp) (fun x hx => Right_1_eq x (h.txt.1 x hx).1 K)
  have h2 : ∀ K, eval tbl noExt n_slices_ContainsFunc_api_Oracle_api_Oracle [.sl 5 p.ocells, .fn (.func n_tree_Right_2) [] []] K = some (.bool (!(p.oracles.all fun x => isName x.1 && x.2.ok 8)), K) := by
    intro K
    rw [← any_not]
    exact ContainsFunc_api_Oracle_api_Oracle (first := []) (cap := []) lt_tree_Right_2 (fun x : List UInt8 × Ex => V.str x.1 :: x.2.cells) p.oracles (by omega) (fun x => !(isName x.1 && x.2.ok 8)) K (fun x _ => by have := Ex.strips x.2; simp only [allStrip] at this; simp [this]) (fun x hx => Right_2_eq x (h.txt.2.2.2 x hx).1 (h.oracle hx).1 K)
  have h3 : ∀ K, eval tbl noExt n_slices_ContainsFunc_api_Stmt_api_Stmt [.own 1 (p.parts.map brow), .fn (.func n_tree_Right_3) [] []] K = some (.bool (!(p.parts.all fun b => Sm.oks b 1)), K) := by
    intro K
    rw [← any_not]
    exact ContainsFunc_api_Stmt_api_Stmt_own (first := []) (cap := []) lt_tree_Right_3 (fun b : List Sm => Sm.rows b) p.parts (by omega) (fun b => !Sm.oks b 1) K (fun b hb => Right_3_eq b (h.part hb) K)
  have hp : ∀ K, eval tbl noExt n_tree_parts [.agg p.cells] K = some (.own 1 (p.parts.map brow), K) := fun K => parts_eq p (by omega) K
  have hparts : (p.parts.all fun b => Sm.oks b 1) = ((p.procs.all fun x => Sm.oks x.2 1) && (Sm.oks p.main 1 && Sm.oks p.recover 1)) := by
    simp [Pg.parts, Function.comp_def]
  have hprocs : (p.procs.all fun x => isName x.1 && Sm.oks x.2 1) = ((p.procs.all fun x => isName x.1) && (p.procs.all fun x => Sm.oks x.2 1)) := by
    generalize p.procs = l
    induction l with
    | nil => rfl
    | cons x l ih => simp only [List.all_cons, ih]; cases isName x.1 <;> cases Sm.oks x.2 1 <;> simp
  rw [hparts] at h3
  simp only [Pg.ok, hprocs]
  have hfl : (Sm.rows p.flats).length = p.flats.length := by rw [Sm.rows_eq]; simp
  have hpl := p.pcells_len
  have hol := p.ocells_len
  rw [eval_M rfl rfl t_tree_Right rfl]
  generalize (p.procs.all fun x => isName x.1) = b1 at h1 ⊢
  generalize (p.procs.all fun x => Sm.oks x.2 1) = b2 at h3 ⊢
  generalize (p.oracles.all fun x => isName x.1 && x.2.ok 8) = b3 at h2 ⊢
  generalize (Sm.oks p.main 1 && Sm.oks p.recover 1) = b4 at h3 ⊢
  simp only [Pg.cells] at ha hp ⊢
  by_cases c1 : p.procs.length ≤ 16
  case neg =>
    have c1' : (16 : Int) < p.procs.length := by omega
    simp [c_tree_Right, get0, hpl, hol, c1, c1']
  have c1' : ¬ (16 : Int) < p.procs.length := by omega
  by_cases c2 : p.oracles.length ≤ 16
  case neg =>
    have c2' : (16 : Int) < p.oracles.length := by omega
    simp [c_tree_Right, get0, hpl, hol, c1, c1', c2, c2']
  have c2' : ¬ (16 : Int) < p.oracles.length := by omega
  by_cases c3 : p.flats.length ≤ 256
  case neg =>
    have c3' : (256 : Int) < p.flats.length := by omega
    simp [c_tree_Right, get0, hpl, hol, c1, c1', c2, c2', ha, lt_tree_All, hfl, c3, c3']
  have c3' : ¬ (256 : Int) < p.flats.length := by omega
  cases b1 with
  | false => simp [c_tree_Right, get0, hpl, hol, c1, c1', c2, c2', ha, lt_tree_All, hfl, c3, c3', h1, lt_slices_ContainsFunc_api_Proc_api_Proc]
  | true =>
    cases b3 with
    | false => simp [c_tree_Right, get0, hpl, hol, c1, c1', c2, c2', ha, lt_tree_All, hfl, c3, c3', h1, lt_slices_ContainsFunc_api_Proc_api_Proc, h2, lt_slices_ContainsFunc_api_Oracle_api_Oracle]
    | true => simp [c_tree_Right, get0, hpl, hol, c1, c1', c2, c2', ha, lt_tree_All, hfl, c3, c3', h1, lt_slices_ContainsFunc_api_Proc_api_Proc, h2, lt_slices_ContainsFunc_api_Oracle_api_Oracle, hp, lt_tree_parts, h3, lt_slices_ContainsFunc_api_Stmt_api_Stmt]

theorem refRight_procs (p : Pg) (h : p.Fine) (H : Heap) (Q : Option (V × Heap) → Prop) (k : List Item)
    (hret : ∀ φ', (p.procs.all fun x => isName x.1 && Sm.oks x.2 1) = false → Fr.get φ' 2 = .bool false → Q (retK k φ' (H ++ [some p.cells])))
    (hexit : ∀ φ', (p.procs.all fun x => isName x.1 && Sm.oks x.2 1) = true → Fr.get φ' 1 = .ptr H.length 0 → Q (M (eval tbl noExt) k φ' (H ++ [some p.cells]))) :
    ∀ (j i : Nat) (φ : Fr), i + j = p.procs.length → (p.procs.all fun x => isName x.1 && Sm.oks x.2 1) = ((p.procs.drop i).all fun x => isName x.1 && Sm.oks x.2 1) → Fr.get φ 1 = .ptr H.length 0 → Fr.get φ 3 = .int .i64 i →
      Q (M (eval tbl noExt) (.code l_flotsamref16_Right_0 :: .blk 0 :: k) φ (H ++ [some p.cells])) := by
  have hcl := p.pcells_len
  have hl := p.lens h.size
  simp only [Pg.cells] at hret hexit ⊢
  intro j
  induction j with
  | zero =>
    intro i φ hj hs h1 h3
    have hi : ¬ ((i : Int) < p.procs.length) := by omega
    rw [List.drop_of_length_le (by omega)] at hs
    rw [l_flotsamref16_Right_0, M_loop, ← l_flotsamref16_Right_0]
    simp [b_flotsamref16_Right_0, h1, h3, hcl, hi, get0]
    exact hexit _ (by rw [hs]; rfl) (by simp [h1])
  | succ j ih =>
    intro i φ hj hs h1 h3
    have hi : (i : Int) < p.procs.length := by omega
    have hil : i < p.procs.length := by omega
    obtain ⟨x, hx, hmem, hdr⟩ := at_some hil
    have hrow := p.prow hx
    have hw1 : IntKind.i64.wrap ((i : Int) + 1) = ((i + 1 : Nat) : Int) := by rw [w64 (by omega) (by omega)]; rfl
    rw [hdr, List.all_cons] at hs
    have hN := refName_eq x.1 (by have := (h.txt.1 x hmem).1; omega)
    have hB := (h.proc hmem).2 []
    simp only [Int.cast_ofNat_Int] at hB
    rw [l_flotsamref16_Right_0, M_loop, ← l_flotsamref16_Right_0]
    cases hn : isName x.1 with
    | false =>
      rw [hn, Bool.false_and, Bool.false_and] at hs
      rw [hn] at hN
      simp [b_flotsamref16_Right_0, h1, h3, hi, hcl, hrow, get0, hN, lt_flotsamref15_Name]
      exact hret _ hs (by simp)
    | true =>
      rw [hn, Bool.true_and] at hs
      rw [hn] at hN
      cases hb : Sm.oks x.2 1 with
      | false =>
        rw [hb, Bool.false_and] at hs
        rw [hb] at hB
        simp [b_flotsamref16_Right_0, h1, h3, hi, hcl, hrow, get0, hN, lt_flotsamref15_Name, hB, lt_flotsamref16_Block]
        exact hret _ hs (by simp)
      | true =>
        rw [hb, Bool.true_and] at hs
        rw [hb] at hB
        simp [b_flotsamref16_Right_0, h1, h3, hi, hcl, hrow, get0, hN, lt_flotsamref15_Name, hB, lt_flotsamref16_Block, hw1]
        exact ih (i + 1) _ (by omega) hs (by simp [h1]) (by simp)

theorem refRight_oracles (p : Pg) (h : p.Fine) (H : Heap) (Q : Option (V × Heap) → Prop) (k : List Item)
    (hret : ∀ φ', (p.oracles.all fun x => isName x.1 && x.2.ok 8) = false → Fr.get φ' 2 = .bool false → Q (retK k φ' (H ++ [some p.cells])))
    (hexit : ∀ φ', (p.oracles.all fun x => isName x.1 && x.2.ok 8) = true → Fr.get φ' 1 = .ptr H.length 0 → Q (M (eval tbl noExt) k φ' (H ++ [some p.cells]))) :
    ∀ (j i : Nat) (φ : Fr), i + j = p.oracles.length → (p.oracles.all fun x => isName x.1 && x.2.ok 8) = ((p.oracles.drop i).all fun x => isName x.1 && x.2.ok 8) → Fr.get φ 1 = .ptr H.length 0 → Fr.get φ 4 = .int .i64 i →
      Q (M (eval tbl noExt) (.code l_flotsamref16_Right_1 :: .blk 2 :: k) φ (H ++ [some p.cells])) := by
  have hcl := p.ocells_len
  have hl := p.lens h.size
  simp only [Pg.cells] at hret hexit ⊢
  intro j
  induction j with
  | zero =>
    intro i φ hj hs h1 h4
    have hi : ¬ ((i : Int) < p.oracles.length) := by omega
    rw [List.drop_of_length_le (by omega)] at hs
    rw [l_flotsamref16_Right_1, M_loop, ← l_flotsamref16_Right_1]
    simp [b_flotsamref16_Right_1, h1, h4, hcl, hi, get0]
    exact hexit _ (by rw [hs]; rfl) (by simp [h1])
  | succ j ih =>
    intro i φ hj hs h1 h4
    have hi : (i : Int) < p.oracles.length := by omega
    have hil : i < p.oracles.length := by omega
    obtain ⟨x, hx, hmem, hdr⟩ := at_some hil
    have hrow := Pg.orow hx
    have hw1 : IntKind.i64.wrap ((i : Int) + 1) = ((i + 1 : Nat) : Int) := by rw [w64 (by omega) (by omega)]; rfl
    rw [hdr, List.all_cons] at hs
    have hN := refName_eq x.1 (by have := (h.txt.2.2.2 x hmem).1; omega)
    have hB := (h.oracle hmem).2 []
    obtain ⟨s, e⟩ := x
    obtain ⟨op, n, t, y⟩ := e
    simp only [Ex.cells, Int.cast_ofNat_Int] at hB hrow hN hs
    rw [l_flotsamref16_Right_1, M_loop, ← l_flotsamref16_Right_1]
    cases hn : isName s with
    | false =>
      rw [hn, Bool.false_and, Bool.false_and] at hs
      rw [hn] at hN
      simp [b_flotsamref16_Right_1, h1, h4, hi, hcl, hrow, get0, hN, lt_flotsamref15_Name]
      exact hret _ hs (by simp)
    | true =>
      rw [hn, Bool.true_and] at hs
      rw [hn] at hN
      cases hb : (Ex.mk op n t y).ok 8 with
      | false =>
        rw [hb, Bool.false_and] at hs
        rw [hb] at hB
        simp [b_flotsamref16_Right_1, h1, h4, hi, hcl, hrow, get0, hN, lt_flotsamref15_Name, hB, lt_flotsamref16_Expr]
        exact hret _ hs (by simp)
      | true =>
        rw [hb, Bool.true_and] at hs
        rw [hb] at hB
        simp [b_flotsamref16_Right_1, h1, h4, hi, hcl, hrow, get0, hN, lt_flotsamref15_Name, hB, lt_flotsamref16_Expr, hw1]
        exact ih (i + 1) _ (by omega) hs (by simp [h1]) (by simp)

theorem refRight_eq (p : Pg) (h : p.Fine) (H : Heap) : eval tbl noExt n_flotsamref16_Right [.agg p.cells] H = some (.bool p.ok, H) := by
  have hl := p.lens h.size
  have hsz := h.size
  have ha := refAll_eq p (by omega)
  have hfl : (Sm.rows p.flats).length = p.flats.length := by rw [Sm.rows_eq]; simp
  have hpl := p.pcells_len
  have hol := p.ocells_len
  have hM := h.main.2 []
  have hR := h.recover.2 []
  have loop1 := refRight_procs p h H
  have loop2 := refRight_oracles p h H
  simp only [Pg.ok]
  rw [eval_M rfl rfl t_flotsamref16_Right rfl]
  by_cases c1 : p.procs.length ≤ 16
  case neg =>
    have c1' : (16 : Int) < p.procs.length := by omega
    simp [c_flotsamref16_Right, Pg.cells, get0, hpl, hol, c1, c1']
  have c1' : ¬ (16 : Int) < p.procs.length := by omega
  by_cases c2 : p.oracles.length ≤ 16
  case neg =>
    have c2' : (16 : Int) < p.oracles.length := by omega
    simp [c_flotsamref16_Right, Pg.cells, get0, hpl, hol, c1, c1', c2, c2']
  have c2' : ¬ (16 : Int) < p.oracles.length := by omega
  simp only [Pg.cells] at ha
  by_cases c3 : p.flats.length ≤ 256
  case neg =>
    have c3' : (256 : Int) < p.flats.length := by omega
    simp [c_flotsamref16_Right, Pg.cells, get0, hpl, hol, c1, c1', c2, c2', ha, lt_flotsamref16_All, hfl, c3, c3']
  have c3' : ¬ (256 : Int) < p.flats.length := by omega
  simp only [c1, c2, c3, decide_true, Bool.true_and]
  generalize hres : ((p.procs.all fun x => isName x.1 && Sm.oks x.2 1) && ((p.oracles.all fun x => isName x.1 && x.2.ok 8) && (Sm.oks p.main 1 && Sm.oks p.recover 1))) = R
  simp [c_flotsamref16_Right, Pg.cells, get0, hpl, hol, c1', c2', ha, lt_flotsamref16_All, hfl, c3']
  simp only [Pg.cells] at loop1 loop2
  refine loop1 (fun o => o = some (.bool R, H)) _ (fun φ' e g => ?_) (fun φ' e g1 => ?_) p.procs.length 0 _ (by omega) rfl (by simp) (by simp)
  · rw [e, Bool.false_and] at hres; subst hres; simp [g]
  · rw [e, Bool.true_and] at hres
    simp [r_flotsamref16_Right_1]
    refine loop2 (fun o => o = some (.bool R, H)) _ (fun φ'' e2 g => ?_) (fun φ'' e2 g2 => ?_) p.oracles.length 0 _ (by omega) rfl (by simp [g1]) (by simp)
    · rw [e2, Bool.false_and] at hres; subst hres; simp [g]
    · rw [e2, Bool.true_and] at hres
      simp only [Int.cast_ofNat_Int] at hM hR
      cases hm : Sm.oks p.main 1 with
      | false =>
        rw [hm] at hM hres
        rw [Bool.false_and] at hres; subst hres
        simp [r_flotsamref16_Right_0, g2, get0, hM, lt_flotsamref16_Block]
      | true =>
        rw [hm] at hM hres
        rw [Bool.true_and] at hres
        rw [hres] at hR
        simp [r_flotsamref16_Right_0, g2, get0, hM, hR, lt_flotsamref16_Block]

theorem TreeRight_eq (op : Int) (hop : (Lit.int .i64 op).wf = true) (p : Pg) (hfit : p.fit) : eval tbl noExt n_flotsamlaw16_TreeRight [.int .i64 op, .agg p.cells] [] = some (.bool true, []) := by
  obtain ⟨b, hb, hs⟩ := Small_eq p
  rw [eval_M rfl rfl t_flotsamlaw16_TreeRight rfl]
  cases b with
  | false =>
    simp only [Pg.cells] at hb ⊢
    simp [c_flotsamlaw16_TreeRight, hb, knows16, lt_flotsamlaw16_Small, lt_flotsamlaw16_knows, get0]
  | true =>
    obtain ⟨hsz, htx⟩ := hs rfl
    have hf : p.Fine := ⟨by omega, htx⟩
    have h1 := Right_eq p hf []
    have h2 := refRight_eq p hf []
    have e1 := Exprs_eq op
    have e2 := refExprs_eq op
    have e3 := Parts_eq op
    have e4 := refParts_eq op
    simp only [tup] at e1 e2 e3 e4
    simp only [Pg.cells] at hb h1 h2 ⊢
    simp [c_flotsamlaw16_TreeRight, hb, knows16, lt_flotsamlaw16_Small, lt_flotsamlaw16_knows, get0, h1, h2, e1, e2, e3, e4, lt_tree_Exprs, lt_tree_Parts, lt_flotsamref16_Exprs, lt_flotsamref16_Parts, lt_tree_Right, lt_flotsamref16_Right]

end Go.AM.Spec
