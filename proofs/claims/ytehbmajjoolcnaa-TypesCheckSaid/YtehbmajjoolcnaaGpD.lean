/-
  The parts of this proof that speak of the functions one by one.
-/
import Derived.Test.YtehbmajjoolcnaaGpC
import Derived.Test.YtehbmajjoolcnaaGpB
namespace Go.AM.Spec
set_option linter.unusedVariables false
set_option linter.unusedSimpArgs false
set_option maxHeartbeats 4000000
set_option maxRecDepth 10000
def rrows (R : Mp) : List (List V) := R.map fun x => [V.str x.1, .int .i64 x.2]
def nrows (l : List Nm) : List (List V) := l.map fun x => [V.str x]
theorem rkind_loop (R : Mp) (hl : R.length ≤ 1000000) (s : Nm) (k : List Item) (X : Option (V × Heap))
    (hret : ∀ φ', Fr.get φ' 4 = .int .i64 (R.get s) → retK k φ' [] = X) (hexit : ∀ φ', R.get s = 0 → M (eval tbl noExt) k φ' [] = X) :
    ∀ (l : Mp) (i : Nat) (φ : Fr), R.drop i = l → R.get s = l.get s → Fr.get φ 0 = .sl 2 (rrows R) → Fr.get φ 1 = .str s → Fr.get φ 5 = .int .i64 i →
      M (eval tbl noExt) (.code l_r19_kind_0 :: .blk 0 :: k) φ [] = X := by
  intro l
  induction l with
  | nil =>
    intro i φ hd e1 h0 h1 h5
    have hi : R.length ≤ i := by rw [← Nat.sub_eq_zero_iff_le, ← List.length_drop, hd]; rfl
    have hlt : ¬ ((i : Int) < R.length) := by omega
    have hrl : (rrows R).length = R.length := by simp [rrows]
    rw [l_r19_kind_0, M_loop, ← l_r19_kind_0]
    simp [b_r19_kind_0, h0, h1, h5, hrl, hlt]
    exact hexit _ e1
  | cons x l ih =>
    intro i φ hd e1 h0 h1 h5
    have hi : i < R.length := by
      have : (R.drop i).length = l.length + 1 := by rw [hd]; rfl
      rw [List.length_drop] at this; omega
    have hlt : (i : Int) < R.length := by omega
    have hx : R[i]? = some x := by rw [← List.head?_drop, hd]; rfl
    have hd1 : R.drop (i + 1) = l := by rw [← List.tail_drop, hd]; rfl
    have hr : (rrows R)[i]? = some [.str x.1, .int .i64 x.2] := by rw [rrows, List.getElem?_map, hx]; rfl
    have hr2 : ∀ h, (rrows R)[i]'h = [.str x.1, .int .i64 x.2] := fun h => by rw [List.getElem?_eq_getElem h] at hr; exact Option.some.inj hr
    have hrl : (rrows R).length = R.length := by simp [rrows]
    have hw : IntKind.i64.wrap ((i : Int) + 1) = ((i + 1 : Nat) : Int) := by rw [w64 (by omega) (by omega)]; rfl
    rw [l_r19_kind_0, M_loop, ← l_r19_kind_0]
    by_cases hs : x.1 = s
    · simp [b_r19_kind_0, h0, h1, h5, hrl, hlt, hi, hr, hr2, hs]
      refine hret _ ?_
      rw [e1]; simp [Mp.get, hs]
    · simp [b_r19_kind_0, h0, h1, h5, hrl, hlt, hi, hr, hr2, hs, hw]
      refine ih (i + 1) _ hd1 (by rw [e1, Mp.get, if_neg hs]) ?_ ?_ ?_
      · simp [h0]
      · simp [h1]
      · simp
theorem rkind_eq (R : Mp) (hl : R.length ≤ 1000000) (s : Nm) : eval tbl noExt n_r19_kind [.sl 2 (rrows R), .str s] [] = some (.int .i64 (R.get s), []) := by
  rw [eval_M rfl rfl t_r19_kind rfl]
  simp [c_r19_kind]
  refine rkind_loop R hl s _ _ ?_ ?_ R 0 _ rfl rfl ?_ ?_ ?_
  · intro φ' h4; simp [h4]
  · intro φ' h0; simp [r_r19_kind_0, h0]
  all_goals simp
theorem rhas_loop (R : List Nm) (hl : R.length ≤ 1000000) (s : Nm) (k : List Item) (X : Option (V × Heap))
    (hret : ∀ φ', hasN R s = true → Fr.get φ' 4 = .bool true → retK k φ' [] = X) (hexit : ∀ φ', hasN R s = false → M (eval tbl noExt) k φ' [] = X) :
    ∀ (l : List Nm) (i : Nat) (φ : Fr), R.drop i = l → hasN R s = hasN l s → Fr.get φ 0 = .sl 1 (nrows R) → Fr.get φ 1 = .str s → Fr.get φ 5 = .int .i64 i →
      M (eval tbl noExt) (.code l_r19_has_0 :: .blk 0 :: k) φ [] = X := by
  intro l
  induction l with
  | nil =>
    intro i φ hd e1 h0 h1 h5
    have hi : R.length ≤ i := by rw [← Nat.sub_eq_zero_iff_le, ← List.length_drop, hd]; rfl
    have hlt : ¬ ((i : Int) < R.length) := by omega
    have hrl : (nrows R).length = R.length := by simp [nrows]
    rw [l_r19_has_0, M_loop, ← l_r19_has_0]
    simp [b_r19_has_0, h0, h1, h5, hrl, hlt]
    exact hexit _ e1
  | cons x l ih =>
    intro i φ hd e1 h0 h1 h5
    have hi : i < R.length := by
      have : (R.drop i).length = l.length + 1 := by rw [hd]; rfl
      rw [List.length_drop] at this; omega
    have hlt : (i : Int) < R.length := by omega
    have hx : R[i]? = some x := by rw [← List.head?_drop, hd]; rfl
    have hd1 : R.drop (i + 1) = l := by rw [← List.tail_drop, hd]; rfl
    have hr : (nrows R)[i]? = some [.str x] := by rw [nrows, List.getElem?_map, hx]; rfl
    have hr2 : ∀ h, (nrows R)[i]'h = [.str x] := fun h => by rw [List.getElem?_eq_getElem h] at hr; exact Option.some.inj hr
    have hrl : (nrows R).length = R.length := by simp [nrows]
    have hw : IntKind.i64.wrap ((i : Int) + 1) = ((i + 1 : Nat) : Int) := by rw [w64 (by omega) (by omega)]; rfl
    rw [l_r19_has_0, M_loop, ← l_r19_has_0]
    by_cases hs : x = s
    · simp [b_r19_has_0, h0, h1, h5, hrl, hlt, hi, hr, hr2, hs]
      refine hret _ ?_ ?_
      · rw [e1]; simp [hasN, hs]
      · simp
    · simp [b_r19_has_0, h0, h1, h5, hrl, hlt, hi, hr, hr2, hs, hw]
      refine ih (i + 1) _ hd1 (by rw [e1]; simp [hasN, hs]) ?_ ?_ ?_
      · simp [h0]
      · simp [h1]
      · simp
theorem rhas_eq (R : List Nm) (hl : R.length ≤ 1000000) (s : Nm) : eval tbl noExt n_r19_has [.sl 1 (nrows R), .str s] [] = some (.bool (hasN R s), []) := by
  rw [eval_M rfl rfl t_r19_has rfl]
  simp [c_r19_has]
  refine rhas_loop R hl s _ _ ?_ ?_ R 0 _ rfl rfl ?_ ?_ ?_
  · intro φ' h h4; simp [h4, h]
  · intro φ' h0; simp [r_r19_has_0, h0]
  all_goals simp
theorem want_eq (ok : Bool) (k : Int) (H : Heap) : eval tbl noExt n_r19_want [.bool ok, .int .i64 k] H = some (.tup [.int .i64 (tyIs ok k).1, .int .i64 (tyIs ok k).2], H) := by
  rw [eval_M rfl rfl t_r19_want rfl]
  cases ok <;> simp [c_r19_want, tyIs]
def wantR (op : Int) (i : Nat) : Int := if op = 12 then 0 else if op = 13 ∨ op = 18 then 3 else if (op = 3 ∨ op = 5) ∧ i = 1 then 1 else 2
theorem wantR_wants (op : Int) (i : Nat) (k : Int) : (wantR op i ≠ 0 ∧ wantR op i ≠ k) ↔ wants op i k = false := by
  unfold wantR wants
  repeat' split
  all_goals simp
  all_goals omega
theorem rwants_eq (op : Int) (i : Nat) (H : Heap) : eval tbl noExt n_r19_wants [.int .i64 op, .int .i64 i] H = some (.int .i64 (wantR op i), H) := by
  rw [eval_M rfl rfl t_r19_wants rfl]
  by_cases h1 : op = 12
  · simp [c_r19_wants, wantR, h1]
  by_cases h2 : op = 13
  · simp [c_r19_wants, wantR, h1, h2]
  by_cases h3 : op = 18
  · simp [c_r19_wants, wantR, h1, h2, h3]
  by_cases h4 : op = 3
  · by_cases h5 : i = 1
    · simp [c_r19_wants, wantR, h1, h2, h3, h4, h5]
    · have h5' : ¬ (i : Int) = 1 := by omega
      simp [c_r19_wants, wantR, h1, h2, h3, h4, h5, h5']
  by_cases h6 : op = 5
  · by_cases h5 : i = 1
    · simp [c_r19_wants, wantR, h1, h2, h3, h4, h5, h6]
    · have h5' : ¬ (i : Int) = 1 := by omega
      simp [c_r19_wants, wantR, h1, h2, h3, h4, h5, h5', h6]
  simp [c_r19_wants, wantR, h1, h2, h3, h4, h6]
def RtOK (R : Mp) (e : Ex) : Prop := eval tbl noExt n_r19_Type [.agg e.cells, .sl 2 (rrows R)] [] = some (.tup [.int .i64 (e.ty R.get).1, .int .i64 (e.ty R.get).2], [])
theorem rtype_loop (R : Mp) (op n : Int) (s : Nm) (x : List Ex) (hl : x.length ≤ 2) (hx : ∀ e ∈ x, RtOK R e) (k : List Item) (X : Option (V × Heap))
    (hret : ∀ φ' K, (Ex.tys R.get x).2 ≠ 0 → Fr.get φ' 4 = .int .i64 0 → Fr.get φ' 5 = .int .i64 (Ex.tys R.get x).2 → retK k φ' K = X)
    (hexit : ∀ φ', (Ex.tys R.get x).2 = 0 → Fr.get φ' 1 = .sl 2 (rrows R) → Fr.get φ' 2 = .ptr 0 0 → Fr.get φ' 6 = .ptr 1 0 → M (eval tbl noExt) k φ' [some [.int .i64 op, .int .i64 n, .str s, .sl 4 (Ex.rows x)], some (kpad (Ex.tys R.get x).1)] = X) :
    ∀ (l : List Ex) (i : Nat) (D : List Int) (φ : Fr), x.drop i = l → D.length = i → (Ex.tys R.get x).2 = (Ex.tys R.get l).2 → ((Ex.tys R.get l).2 = 0 → (Ex.tys R.get x).1 = D ++ (Ex.tys R.get l).1) →
      Fr.get φ 1 = .sl 2 (rrows R) → Fr.get φ 2 = .ptr 0 0 → Fr.get φ 6 = .ptr 1 0 → Fr.get φ 7 = .int .i64 i →
      M (eval tbl noExt) (.code l_r19_Type_0 :: .blk 0 :: k) φ [some [.int .i64 op, .int .i64 n, .str s, .sl 4 (Ex.rows x)], some (kpad D)] = X := by
  intro l
  induction l with
  | nil =>
    intro i D φ hd hD e1 e2 h1 h2 h6 h7
    have hi : x.length ≤ i := by rw [← Nat.sub_eq_zero_iff_le, ← List.length_drop, hd]; rfl
    have hlt : ¬ ((i : Int) < x.length) := by omega
    have hrl : (Ex.rows x).length = x.length := by rw [Ex.rows_eq]; simp
    have e2 := e2 rfl
    rw [show (Ex.tys R.get []).1 = [] from rfl, List.append_nil] at e2
    rw [l_r19_Type_0, M_loop, ← l_r19_Type_0]
    simp [b_r19_Type_0, h1, h2, h6, h7, hrl, hlt]
    subst e2
    refine hexit _ ?_ ?_ ?_ ?_
    · rw [e1]; rfl
    · simp [h1]
    · simp [h2]
    · simp [h6]
  | cons e l ih =>
    intro i D φ hd hD e1 e2 h1 h2 h6 h7
    have hi : i < x.length := by
      have : (x.drop i).length = l.length + 1 := by rw [hd]; rfl
      rw [List.length_drop] at this; omega
    have hlt : (i : Int) < x.length := by omega
    have hxe : x[i]? = some e := by rw [← List.head?_drop, hd]; rfl
    have hmem : e ∈ x := List.mem_of_getElem? hxe
    have hd1 : x.drop (i + 1) = l := by rw [← List.tail_drop, hd]; rfl
    have hr : (Ex.rows x)[i]? = some e.cells := by rw [Ex.rows_eq, List.getElem?_map, hxe]; rfl
    have hr2 : ∀ h, (Ex.rows x)[i]'h = e.cells := fun h => by rw [List.getElem?_eq_getElem h] at hr; exact Option.some.inj hr
    have hrl : (Ex.rows x).length = x.length := by rw [Ex.rows_eq]; simp
    have hw : IntKind.i64.wrap ((i : Int) + 1) = ((i + 1 : Nat) : Int) := by rw [w64 (by omega) (by omega)]; rfl
    have hc := hx e hmem
    unfold RtOK at hc
    have hset : ∀ v : Int, (kpad D).set i (.int .i64 v) = kpad (D ++ [v]) := by
      intro v
      subst hD
      match D, hi with
      | [], _ => rfl
      | [a], _ => rfl
      | a :: b :: r, h => simp at h; omega
    have q1 : (Ex.tys R.get (e :: l)) = if (e.ty R.get).2 ≠ 0 then ([], (e.ty R.get).2) else ((e.ty R.get).1 :: (Ex.tys R.get l).1, (Ex.tys R.get l).2) := by rw [Ex.tys]
    obtain ⟨op', m', s', y⟩ := e
    generalize (Ex.mk op' m' s' y).ty R.get = z at q1 hc
    obtain ⟨z1, z2⟩ := z
    simp only [Ex.cells] at hr hr2 hc
    have hset := hset z1
    generalize hkp : kpad D = kp at hset
    have hkl : kp.length = 2 := by rw [← hkp]; rfl
    have hi2 : (i : Int) < 2 := by omega
    have hi3 : i < kp.length := by omega
    have hi4 : i ≤ 1 := by omega
    rw [l_r19_Type_0, M_loop, ← l_r19_Type_0]
    by_cases he : z2 = 0
    · subst he
      rw [if_neg (by simp)] at q1
      simp [b_r19_Type_0, h1, h2, h6, h7, hlt, hi, hr, hr2, hrl, hw, hc, hset, hkl, hi2, hi3, hi4]
      refine ih (i + 1) (D ++ [z1]) _ hd1 (by simp [hD]) (by rw [e1, q1]) (fun h => ?_) ?_ ?_ ?_ ?_
      · rw [e2 (by rw [q1]; exact h), q1]; simp
      · simp [h1]
      · simp [h2]
      · simp [h6]
      · simp
    · rw [if_pos he] at q1
      simp [b_r19_Type_0, h1, h2, h6, h7, hlt, hi, hr, hr2, hrl, hw, he, hc, hset, hkl, hi2, hi3, hi4]
      refine hret _ _ (by rw [e1, q1]; exact he) ?_ ?_
      · simp
      · rw [e1, q1]; simp
theorem rtype_step (R : Mp) (hR : R.length ≤ 1000000) (op n : Int) (s : Nm) (x : List Ex) (hl : x.length ≤ 2) (hx : ∀ e ∈ x, RtOK R e) : RtOK R (.mk op n s x) := by
  have hk := rkind_eq R hR s
  have hcl : (Ex.rows x).length = x.length := by rw [Ex.rows_eq]; simp
  unfold RtOK
  have hz : (Ex.mk op n s x).ty R.get = if (Ex.tys R.get x).2 ≠ 0 then (0, (Ex.tys R.get x).2) else tyOp R.get op s ((Ex.tys R.get x).1.getD 0 0) ((Ex.tys R.get x).1.getD 1 0) := by rw [Ex.ty]
  generalize (Ex.mk op n s x).ty R.get = z at hz ⊢
  simp only [Ex.cells]
  rw [eval_M rfl rfl t_r19_Type rfl]
  simp [c_r19_Type]
  refine rtype_loop R op n s x hl hx _ _ ?_ ?_ x 0 [] _ rfl rfl rfl (fun _ => rfl) ?_ ?_ ?_ ?_
  · intro φ' K he h4 h5
    rw [if_pos he] at hz
    subst hz
    simp [h4, h5]
  · intro φ' he h1 h2 h6
    rw [if_neg (by simp [he])] at hz
    generalize (Ex.tys R.get x).1 = K at hz ⊢
    simp only [kpad]
    generalize K.getD 0 0 = a at hz ⊢
    generalize K.getD 1 0 = b at hz ⊢
    subst hz
    have bd : ∀ u v : Int, (u == v) = decide (u = v) := fun u v => by by_cases h : u = v <;> simp [h]
    have bn : ∀ u v : Int, (u != v) = decide (u ≠ v) := fun u v => by by_cases h : u = v <;> simp [h]
    unfold tyOp
    simp only [bd, bn]
    clear hx
    by_cases c1 : op = 1
    · simp [r_r19_Type_0, h1, h2, h6, c1]
    by_cases c2 : op = 2
    · simp [r_r19_Type_0, h1, h2, h6, c1, c2]
    by_cases c3 : op = 3
    · simp [r_r19_Type_0, h1, h2, h6, c1, c2, c3]
    by_cases c4 : op = 4
    · by_cases h0 : R.get s = 0
      · rw [h0] at hk
        simp [r_r19_Type_0, h1, h2, h6, c1, c2, c3, c4, hk, h0]
      · simp [r_r19_Type_0, h1, h2, h6, c1, c2, c3, c4, hk, h0]
    by_cases c5 : op = 5
    · simp [r_r19_Type_0, h1, h2, h6, c1, c2, c3, c4, c5, want_eq]
    by_cases c6 : op = 6
    · simp [r_r19_Type_0, h1, h2, h6, c1, c2, c3, c4, c5, c6, want_eq]
    by_cases c7 : op = 7
    · simp [r_r19_Type_0, h1, h2, h6, c1, c2, c3, c4, c5, c6, c7, want_eq]
    by_cases c8 : op = 8
    · simp [r_r19_Type_0, h1, h2, h6, c1, c2, c3, c4, c5, c6, c7, c8, want_eq]
    by_cases c9 : op = 9
    · by_cases ab : a = b
      · simp [r_r19_Type_0, h1, h2, h6, c1, c2, c3, c4, c5, c6, c7, c8, c9, want_eq, ab]
      · simp [r_r19_Type_0, h1, h2, h6, c1, c2, c3, c4, c5, c6, c7, c8, c9, want_eq, ab]
    by_cases c10 : op = 10
    · by_cases ab : a = b
      · subst ab
        by_cases a1 : a = 1
        · simp [r_r19_Type_0, h1, h2, h6, c1, c2, c3, c4, c5, c6, c7, c8, c9, c10, want_eq, a1]
        · simp [r_r19_Type_0, h1, h2, h6, c1, c2, c3, c4, c5, c6, c7, c8, c9, c10, want_eq, a1]
      · by_cases a1 : a = 1
        · have b1 : ¬ b = 1 := by omega
          subst a1
          simp [r_r19_Type_0, h1, h2, h6, c1, c2, c3, c4, c5, c6, c7, c8, c9, c10, want_eq, ab, b1]
        · simp [r_r19_Type_0, h1, h2, h6, c1, c2, c3, c4, c5, c6, c7, c8, c9, c10, want_eq, ab, a1]
    by_cases c11 : op = 11
    · by_cases ab : a = b
      · simp [r_r19_Type_0, h1, h2, h6, c1, c2, c3, c4, c5, c6, c7, c8, c9, c10, c11, want_eq, ab]
      · simp [r_r19_Type_0, h1, h2, h6, c1, c2, c3, c4, c5, c6, c7, c8, c9, c10, c11, want_eq, ab]
    by_cases c12 : op = 12
    · by_cases ab : a = b
      · simp [r_r19_Type_0, h1, h2, h6, c1, c2, c3, c4, c5, c6, c7, c8, c9, c10, c11, c12, want_eq, ab]
      · simp [r_r19_Type_0, h1, h2, h6, c1, c2, c3, c4, c5, c6, c7, c8, c9, c10, c11, c12, want_eq, ab]
    by_cases ab : a = b
    · subst ab
      by_cases a1 : a = 3
      · simp [r_r19_Type_0, h1, h2, h6, c1, c2, c3, c4, c5, c6, c7, c8, c9, c10, c11, c12, want_eq, a1]
      · simp [r_r19_Type_0, h1, h2, h6, c1, c2, c3, c4, c5, c6, c7, c8, c9, c10, c11, c12, want_eq, a1]
    · by_cases a1 : a = 3
      · have b1 : ¬ b = 3 := by omega
        subst a1
        simp [r_r19_Type_0, h1, h2, h6, c1, c2, c3, c4, c5, c6, c7, c8, c9, c10, c11, c12, want_eq, ab, b1]
      · simp [r_r19_Type_0, h1, h2, h6, c1, c2, c3, c4, c5, c6, c7, c8, c9, c10, c11, c12, want_eq, ab, a1]
  all_goals simp [kpad]
theorem rtype_ok (R : Mp) (hR : R.length ≤ 1000000) : ∀ (n : Nat) (e : Ex), e.size ≤ n → e.thin = true → RtOK R e := by
  intro n
  induction n with
  | zero => intro e h; cases e; simp only [Ex.size] at h; omega
  | succ n ih =>
    intro e h ht
    obtain ⟨op, m, s, x⟩ := e
    simp only [Ex.size] at h
    simp only [Ex.thin, Bool.and_eq_true, decide_eq_true_eq] at ht
    exact rtype_step R hR op m s x ht.1 fun e he => ih e (by have := Ex.sizes_mem he; omega) (Ex.thins_mem ht.2 he)
end Go.AM.Spec
namespace Go.AM.Spec
set_option linter.unusedVariables false
set_option linter.unusedSimpArgs false
set_option maxHeartbeats 4000000
set_option maxRecDepth 10000
theorem tyIs_nz {ok : Bool} {k : Int} (hk : k ≠ 0) (h : (tyIs ok k).2 = 0) : (tyIs ok k).1 ≠ 0 := by
  cases ok with
  | true => exact hk
  | false => simp [tyIs] at h
theorem Ex.ok_nz (ρ : Env) : ∀ (n : Nat) (e : Ex), e.size ≤ n → ∀ d, e.ok d = true → (e.ty ρ).2 = 0 → (e.ty ρ).1 ≠ 0 := by
  intro n
  induction n with
  | zero => intro e h; cases e; simp only [Ex.size] at h; omega
  | succ n ih =>
    intro e h d hok h0
    obtain ⟨op, m, s, x⟩ := e
    simp only [Ex.size] at h
    rw [Ex.ty] at h0 ⊢
    by_cases hx : (Ex.tys ρ x).2 ≠ 0
    · rw [if_pos hx] at h0; exact absurd h0 hx
    rw [if_neg hx] at h0 ⊢
    unfold tyOp at h0 ⊢
    by_cases c1 : op = 1
    · rw [if_pos c1]; simp
    rw [if_neg c1] at h0 ⊢
    by_cases c2 : op = 2
    · rw [if_pos c2]; simp
    rw [if_neg c2] at h0 ⊢
    by_cases c3 : op = 3
    · rw [if_pos c3]; simp
    rw [if_neg c3] at h0 ⊢
    by_cases c4 : op = 4
    · rw [if_pos c4] at h0 ⊢
      by_cases z : ρ s = 0
      · rw [if_pos z] at h0; simp at h0
      · rw [if_neg z]; exact z
    rw [if_neg c4] at h0 ⊢
    by_cases c5 : op = 5
    · rw [if_pos c5] at h0 ⊢; exact tyIs_nz (by omega) h0
    rw [if_neg c5] at h0 ⊢
    by_cases c6 : op = 6
    · rw [if_pos c6] at h0 ⊢; exact tyIs_nz (by omega) h0
    rw [if_neg c6] at h0 ⊢
    by_cases c7 : op = 7
    · rw [if_pos c7] at h0 ⊢; exact tyIs_nz (by omega) h0
    rw [if_neg c7] at h0 ⊢
    by_cases c8 : op = 8
    · rw [if_pos c8] at h0 ⊢; exact tyIs_nz (by omega) h0
    rw [if_neg c8] at h0 ⊢
    by_cases c9 : op = 9
    · rw [if_pos c9] at h0 ⊢
      subst c9
      rw [Ex.ok, show parts 9 = some 2 from rfl] at hok
      simp only [Bool.and_eq_true, decide_eq_true_eq] at hok
      obtain ⟨⟨⟨_, hlen⟩, _⟩, hoks⟩ := hok
      match x, hlen with
      | [u, v], _ =>
        simp only [Ex.oks, Bool.and_eq_true] at hoks
        simp only [Ex.sizes] at h
        have hu : (u.ty ρ).2 = 0 := by
          by_cases hu : (u.ty ρ).2 = 0
          · exact hu
          · rw [Ex.tys, if_pos hu] at hx
            simp only [ne_eq, Decidable.not_not] at hx; exact hx
        have hun := ih u (by omega) _ hoks.1 hu
        have e1 : ((Ex.tys ρ [u, v]).1.getD 0 0) = (u.ty ρ).1 := by rw [Ex.tys, if_neg (by simp [hu])]; rfl
        rw [e1] at h0 ⊢
        exact tyIs_nz hun h0
    rw [if_neg c9] at h0 ⊢
    by_cases c10 : op = 10
    · rw [if_pos c10] at h0 ⊢; exact tyIs_nz (by omega) h0
    rw [if_neg c10] at h0 ⊢
    by_cases c11 : op = 11
    · rw [if_pos c11] at h0 ⊢; exact tyIs_nz (by omega) h0
    rw [if_neg c11] at h0 ⊢
    by_cases c12 : op = 12
    · rw [if_pos c12] at h0 ⊢; exact tyIs_nz (by omega) h0
    rw [if_neg c12] at h0 ⊢
    exact tyIs_nz (by omega) h0
def NZ (R : Mp) : Prop := ∀ x ∈ R, x.2 ≠ 0
theorem get_snoc {R : Mp} (h : NZ R) (s : Nm) (k : Int) : Mp.get (R ++ [(s, k)]) = fun x => if R.get x ≠ 0 then R.get x else if x = s then k else 0 := by
  funext t
  induction R with
  | nil =>
    simp only [List.nil_append, Mp.get]
    by_cases e : s = t
    · simp [e]
    · have e' : ¬ t = s := fun h => e h.symm
      simp [e, e']
  | cons x R ih =>
    have hx : x.2 ≠ 0 := h x (by simp)
    simp only [List.cons_append, Mp.get, ih (fun y hy => h y (by simp [hy]))]
    by_cases e : x.1 = t
    · simp [e, hx]
    · simp [e]
theorem NZ.snoc {R : Mp} (h : NZ R) {s : Nm} {k : Int} (hk : k ≠ 0) : NZ (R ++ [(s, k)]) := fun x hx => by
  rw [List.mem_append, List.mem_singleton] at hx
  rcases hx with hx | rfl
  · exact h x hx
  · exact hk
theorem let_nz {ρ : Env} {s : Nm} {n : Int} {e : List Ex} {b c : List Sm} {g : Bool} {d : Nat} {no : Int} (h : (Sm.mk 12 s n e b c g).ok d = true) (h0 : (exprsF ρ 12 no 0 e 0 (0, 0)).2 = (0, 0)) : (exprsF ρ 12 no 0 e 0 (0, 0)).1 ≠ 0 := by
  simp only [Sm.ok, Bool.and_eq_true] at h
  have hs := h.2.1
  rw [shapeOk, show exprs 12 = some 1 from rfl] at hs
  simp only [Bool.and_eq_true, decide_eq_true_eq] at hs
  obtain ⟨hlen, _, _, _, _, _, _, _, hoks⟩ := hs
  match e, hlen with
  | [u], _ =>
    simp only [Ex.oks, Bool.and_eq_true] at hoks
    simp only [exprsF] at h0 ⊢
    by_cases hu : (u.ty ρ).2 ≠ 0
    · rw [if_pos hu, failF_new] at h0
      exact absurd (congrArg Prod.fst h0) hu
    · exact Ex.ok_nz ρ _ u (Nat.le_refl _) _ hoks.1 (by simpa using hu)
theorem rstmt_loop (R : Mp) (hR : R.length ≤ 100000) (names : List Nm) (op n : Int) (s : Nm) (x : List Ex) (b c : List Sm) (g : Bool) (no : Int) (hx : Ex.thins x = true) (hxl : x.length ≤ 1000000) (k : List Item) (X : Option (V × Heap))
    (hret : ∀ φ', (exprsF R.get op no 0 x 0 (0, 0)).2.1 ≠ 0 → Fr.get φ' 8 = .own 2 [] → Fr.get φ' 9 = .ptr 1 0 →
      retK k φ' [some (Sm.mk op s n x b c g).cells, some [.int .i64 (exprsF R.get op no 0 x 0 (0, 0)).2.1, .int .i64 (exprsF R.get op no 0 x 0 (0, 0)).2.2]] = X)
    (hexit : ∀ φ', (exprsF R.get op no 0 x 0 (0, 0)).2 = (0, 0) → Fr.get φ' 1 = .int .i64 no → Fr.get φ' 2 = .sl 2 (rrows R) → Fr.get φ' 3 = .sl 1 (nrows names) → Fr.get φ' 4 = .ptr 0 0 → Fr.get φ' 9 = .ptr 1 0 → Fr.get φ' 10 = .int .i64 (exprsF R.get op no 0 x 0 (0, 0)).1 →
      M (eval tbl noExt) k φ' [some (Sm.mk op s n x b c g).cells, some [.int .i64 0, .int .i64 0]] = X) :
    ∀ (l : List Ex) (i : Nat) (last : Int) (φ : Fr), x.drop i = l → exprsF R.get op no 0 x 0 (0, 0) = exprsF R.get op no i l last (0, 0) →
      Fr.get φ 1 = .int .i64 no → Fr.get φ 2 = .sl 2 (rrows R) → Fr.get φ 3 = .sl 1 (nrows names) → Fr.get φ 4 = .ptr 0 0 → Fr.get φ 9 = .ptr 1 0 → Fr.get φ 10 = .int .i64 last → Fr.get φ 11 = .int .i64 i →
      M (eval tbl noExt) (.code l_r19_stmt_0 :: .blk 0 :: k) φ [some (Sm.mk op s n x b c g).cells, some [.int .i64 0, .int .i64 0]] = X := by
  have hrl : (Ex.rows x).length = x.length := by rw [Ex.rows_eq]; simp
  simp only [Sm.cells] at hret hexit ⊢
  intro l
  induction l with
  | nil =>
    intro i last φ hd e1 h1 h2 h3 h4 h9 h10 h11
    have hi : x.length ≤ i := by rw [← Nat.sub_eq_zero_iff_le, ← List.length_drop, hd]; rfl
    have hlt : ¬ ((i : Int) < x.length) := by omega
    rw [exprsF] at e1
    rw [l_r19_stmt_0, M_loop, ← l_r19_stmt_0]
    simp [b_r19_stmt_0, h1, h2, h3, h4, h9, h10, h11, hrl, hlt]
    refine hexit _ (by rw [e1]) ?_ ?_ ?_ ?_ ?_ ?_
    · simp [h1]
    · simp [h2]
    · simp [h3]
    · simp [h4]
    · simp [h9]
    · rw [e1]; simp [h10]
  | cons e l ih =>
    intro i last φ hd e1 h1 h2 h3 h4 h9 h10 h11
    have hi : i < x.length := by
      have : (x.drop i).length = l.length + 1 := by rw [hd]; rfl
      rw [List.length_drop] at this; omega
    have hlt : (i : Int) < x.length := by omega
    have hxe : x[i]? = some e := by rw [← List.head?_drop, hd]; rfl
    have hmem : e ∈ x := List.mem_of_getElem? hxe
    have hd1 : x.drop (i + 1) = l := by rw [← List.tail_drop, hd]; rfl
    have hr : (Ex.rows x)[i]? = some e.cells := by rw [Ex.rows_eq, List.getElem?_map, hxe]; rfl
    have hr2 : ∀ h, (Ex.rows x)[i]'h = e.cells := fun h => by rw [List.getElem?_eq_getElem h] at hr; exact Option.some.inj hr
    have hw : IntKind.i64.wrap ((i : Int) + 1) = ((i + 1 : Nat) : Int) := by rw [w64 (by omega) (by omega)]; rfl
    have hc := rtype_ok R (by omega) e.size e (Nat.le_refl _) (Ex.thins_mem hx hmem)
    unfold RtOK at hc
    have hrw := rwants_eq op i []
    have hwr := wantR_wants op i (e.ty R.get).1
    rw [exprsF] at e1
    obtain ⟨op', m', s', y⟩ := e
    generalize (Ex.mk op' m' s' y).ty R.get = z at e1 hc hwr
    obtain ⟨z1, z2⟩ := z
    simp only [Ex.cells] at hr hr2 hc
    simp only at e1 hwr
    generalize hwv : wantR op i = wv at hrw hwr
    rw [l_r19_stmt_0, M_loop, ← l_r19_stmt_0]
    by_cases hz : z2 = 0
    · subst hz
      rw [if_neg (by simp)] at e1
      by_cases hwt : wants op i z1 = true
      · rw [if_pos hwt] at e1
        have hnw : ¬ (wv ≠ 0 ∧ wv ≠ z1) := fun h => by rw [hwr, hwt] at h; cases h
        by_cases w0 : wv = 0
        · subst w0
          simp [b_r19_stmt_0, h1, h2, h3, h4, h9, h10, h11, hrl, hlt, hi, hr, hr2, hw, hc, hrw]
          refine ih (i + 1) _ _ hd1 e1 ?_ ?_ ?_ ?_ ?_ ?_ ?_
          · simp [h1]
          · simp [h2]
          · simp [h3]
          · simp [h4]
          · simp [h9]
          · simp
          · simp
        · have w1 : wv = z1 := Decidable.byContradiction fun h => hnw ⟨w0, h⟩
          subst w1
          simp [b_r19_stmt_0, h1, h2, h3, h4, h9, h10, h11, hrl, hlt, hi, hr, hr2, hw, hc, hrw, w0]
          refine ih (i + 1) _ _ hd1 e1 ?_ ?_ ?_ ?_ ?_ ?_ ?_
          · simp [h1]
          · simp [h2]
          · simp [h3]
          · simp [h4]
          · simp [h9]
          · simp
          · simp
      · rw [if_neg hwt, failF_new] at e1
        have hw2 := hwr.2 (by simpa using hwt)
        have e2 := exprsF_set R.get op no l (i + 1) z1 (11, no) (by simp)
        rw [← e1] at e2
        simp [b_r19_stmt_0, h1, h2, h3, h4, h9, h10, h11, hrl, hlt, hi, hr, hr2, hw, hc, hrw, hw2.1, hw2.2]
        rw [e2] at hret
        exact hret _ (by simp) (by simp) (by simp [h9])
    · rw [if_pos hz, failF_new] at e1
      have e2 := exprsF_set R.get op no l (i + 1) z1 (z2, no) (by simp [hz])
      rw [← e1] at e2
      simp [b_r19_stmt_0, h1, h2, h3, h4, h9, h10, h11, hrl, hlt, hi, hr, hr2, hw, hc, hz]
      rw [e2] at hret
      exact hret _ (by simpa using hz) (by simp) (by simp [h9])
end Go.AM.Spec
namespace Go.AM.Spec
set_option linter.unusedVariables false
set_option linter.unusedSimpArgs false
set_option maxHeartbeats 4000000
set_option maxRecDepth 10000
def BlRef (l : List Sm) : Prop := ∀ (R : Mp) (names : List Nm) (no : Int), NZ R → R.length + Sm.sizes l ≤ 50000 → names.length ≤ 50000 → 0 ≤ no → no + Sm.sizes l ≤ 1000000 →
  eval tbl noExt n_r19_block [.sl 7 (Sm.rows l), .int .i64 no, .sl 2 (rrows R), .sl 1 (nrows names)] [] = some (.agg [.int .i64 (Sm.rks (hasN names) R.get l no).1, .int .i64 (Sm.rks (hasN names) R.get l no).2], [])
def StRef (x : Sm) : Prop := ∀ (R : Mp) (names : List Nm) (no : Int), NZ R → R.length + x.size ≤ 50000 → names.length ≤ 50000 → 0 ≤ no → no + x.size ≤ 1000000 →
  ∃ R' v, (v = .sl 2 (rrows R') ∨ v = .own 2 (rrows R')) ∧ eval tbl noExt n_r19_stmt [.agg x.cells, .int .i64 no, .sl 2 (rrows R), .sl 1 (nrows names)] [] = some (.tup [v, .agg [.int .i64 (x.rk (hasN names) R.get no).2.1, .int .i64 (x.rk (hasN names) R.get no).2.2]], []) ∧
    ((x.rk (hasN names) R.get no).2.1 = 0 → R'.get = (x.rk (hasN names) R.get no).1 ∧ NZ R' ∧ R'.length ≤ R.length + 1)
theorem rstmt_step (op n : Int) (s : Nm) (x : List Ex) (b c : List Sm) (g : Bool) (d : Nat) (hok : (Sm.mk op s n x b c g).ok d = true) (hxl : x.length ≤ 1000) (hsb : Sm.sizes b ≤ 1000) (hb : BlRef b) (hc : BlRef c) : StRef (.mk op s n x b c g) := by
  intro R names no hNZ hR hN hn1 hn2
  simp only [Sm.size] at hR hn2
  have hthin := Sm.ok_thin hok
  have hfb := Sm.flats_sizes b
  have hbv := hb R names (no + 1) hNZ (by omega) hN (by omega) (by omega)
  have hcv := hc R names (no + 1 + (Sm.flats b).length) hNZ (by omega) hN (by omega) (by omega)
  have hcount := refCount_ok 1000 b hsb (Nat.le_refl _)
  have hkind := rkind_eq R (by omega) s
  have hhas := rhas_eq names (by omega) s
  have hw1 : IntKind.i64.wrap (no + 1) = no + 1 := by rw [w64 (by omega) (by omega)]
  have hw2 : IntKind.i64.wrap (no + 1 + (Sm.flats b).length) = no + 1 + (Sm.flats b).length := by rw [w64 (by omega) (by omega)]
  have hrrl : (rrows R).length = R.length := by simp [rrows]
  have hcap1 : 2 * (R.length + 1) * 24 ≤ 281474976710656 := by omega
  have hcap0 : 2 * R.length * 24 ≤ 281474976710656 := by omega
  have hplain : ∀ r ∈ rrows R, ∀ v ∈ r, V.plain v = true := by
    intro r hr v hv
    simp only [rrows, List.mem_map] at hr
    obtain ⟨y, _, rfl⟩ := hr
    simp at hv
    rcases hv with rfl | rfl <;> rfl
  have hpl : ((rrows R).all fun r => r.all V.plain) = true := by
    rw [List.all_eq_true]; intro r hr; rw [List.all_eq_true]; exact hplain r hr
  have hrk : (Sm.mk op s n x b c g).rk (hasN names) R.get no = if (exprsF R.get op no 0 x 0 (0, 0)).2.1 ≠ 0 then (R.get, (exprsF R.get op no 0 x 0 (0, 0)).2)
    else if op = 12 then
      if R.get s ≠ 0 ∧ R.get s ≠ (exprsF R.get op no 0 x 0 (0, 0)).1 then (R.get, (11, no)) else (fun y => if R.get y ≠ 0 then R.get y else if y = s then (exprsF R.get op no 0 x 0 (0, 0)).1 else 0, (0, 0))
    else if op = 15 ∧ hasN names s = false then (R.get, (9, no))
    else if (Sm.rks (hasN names) R.get b (no + 1)).1 ≠ 0 then (R.get, Sm.rks (hasN names) R.get b (no + 1)) else (R.get, Sm.rks (hasN names) R.get c (no + 1 + (Sm.flats b).length)) := by rw [Sm.rk]
  generalize (Sm.mk op s n x b c g).rk (hasN names) R.get no = z at hrk ⊢
  obtain ⟨Q, hQ⟩ : ∃ Q : Option (V × Heap) → Prop, ∀ o, Q o ↔ ∃ R' v, (v = .sl 2 (rrows R') ∨ v = .own 2 (rrows R')) ∧ o = some (.tup [v, .agg [.int .i64 z.2.1, .int .i64 z.2.2]], []) ∧ (z.2.1 = 0 → R'.get = z.1 ∧ NZ R' ∧ R'.length ≤ R.length + 1) := ⟨_, fun _ => Iff.rfl⟩
  rw [← hQ, eval_M rfl rfl t_r19_stmt rfl]
  have key : ∀ X, (X = X) → X = (M (eval tbl noExt) [.code l_r19_stmt_0, .blk 0, .code r_r19_stmt_0, .fin [.t 8, .cell 9 (some 2)] 0] [] []) → True := fun _ _ _ => trivial
  simp only [Sm.cells]
  simp [c_r19_stmt]
  have hloop := fun k φ X hret hexit h1 h2 h3 h4 h9 h10 h11 => rstmt_loop R (by omega) names op n s x b c g no hthin (by omega) k X hret hexit x 0 0 φ rfl rfl h1 h2 h3 h4 h9 h10 h11
  simp only [Sm.cells] at hloop
  have hz : ∀ (X : Option (V × Heap)), Q X → ∀ Y, Y = X → Q Y := fun X h Y e => e ▸ h
  by_cases hf : (exprsF R.get op no 0 x 0 (0, 0)).2.1 ≠ 0
  · rw [if_pos hf] at hrk
    refine hz _ ?_ _ (hloop _ _ (some (.tup [.sl 2 [], .agg [.int .i64 z.2.1, .int .i64 z.2.2]], [])) ?_ ?_ ?_ ?_ ?_ ?_ ?_ ?_ ?_)
    · rw [hQ]
      exact ⟨[], _, .inl rfl, rfl, fun h => by rw [hrk] at h; exact absurd h hf⟩
    · intro φ' _ h8 h9
      rw [hrk]
      simp [h8, h9]
    · intro φ' h0
      rw [h0] at hf; simp at hf
    all_goals simp
  · have hf0 : (exprsF R.get op no 0 x 0 (0, 0)).2 = (0, 0) := (exprsF_ok R.get op no x 0 0 (0, 0) (.inl rfl)).resolve_right hf
    rw [if_neg hf] at hrk
    by_cases h12 : op = 12
    · rw [if_pos h12] at hrk
      subst h12
      have hnz := let_nz hok hf0
      generalize hlast : (exprsF R.get 12 no 0 x 0 (0, 0)).1 = last at hrk hloop hnz
      by_cases hold : R.get s ≠ 0 ∧ R.get s ≠ last
      · rw [if_pos hold] at hrk
        refine hz _ ?_ _ (hloop _ _ (some (.tup [.sl 2 [], .agg [.int .i64 z.2.1, .int .i64 z.2.2]], [])) ?_ ?_ ?_ ?_ ?_ ?_ ?_ ?_ ?_)
        · rw [hQ]
          exact ⟨[], _, .inl rfl, rfl, fun h => by rw [hrk] at h; simp at h⟩
        · intro φ' h; exact absurd h hf
        · intro φ' _ h1 h2 h3 h4 h9 h10
          rw [hrk]
          simp [r_r19_stmt_0, h1, h2, h3, h4, h9, h10, hkind, hold.1, hold.2]
        all_goals simp
      · rw [if_neg hold] at hrk
        refine hz _ ?_ _ (hloop _ _ (some (.tup [.sl 2 (rrows (R ++ [(s, last)])), .agg [.int .i64 z.2.1, .int .i64 z.2.2]], [])) ?_ ?_ ?_ ?_ ?_ ?_ ?_ ?_ ?_)
        · rw [hQ]
          exact ⟨R ++ [(s, last)], _, .inl rfl, rfl, fun _ => by rw [hrk]; exact ⟨get_snoc hNZ s last, hNZ.snoc hnz, by simp⟩⟩
        · intro φ' h; exact absurd h hf
        · intro φ' _ h1 h2 h3 h4 h9 h10
          have hrs : rrows (R ++ [(s, last)]) = rrows R ++ [[.str s, .int .i64 last]] := by simp [rrows]
          rw [hrk, hrs]
          by_cases ho : R.get s = 0
          · rw [ho] at hkind
            simp [r_r19_stmt_0, h1, h2, h3, h4, h9, h10, hkind, ho, hrrl, hcap0, hcap1, hpl, -List.all_eq_true]
          · have ho2 : R.get s = last := Decidable.byContradiction fun h => hold ⟨ho, h⟩
            rw [ho2] at hkind ho
            simp [r_r19_stmt_0, h1, h2, h3, h4, h9, h10, hkind, ho, hrrl, hcap0, hcap1, hpl, -List.all_eq_true]
        all_goals simp
    · rw [if_neg h12] at hrk
      by_cases h15 : op = 15 ∧ hasN names s = false
      · rw [if_pos h15] at hrk
        obtain ⟨rfl, h15⟩ := h15
        rw [h15] at hhas
        refine hz _ ?_ _ (hloop _ _ (some (.tup [.sl 2 [], .agg [.int .i64 z.2.1, .int .i64 z.2.2]], [])) ?_ ?_ ?_ ?_ ?_ ?_ ?_ ?_ ?_)
        · rw [hQ]
          exact ⟨[], _, .inl rfl, rfl, fun h => by rw [hrk] at h; simp at h⟩
        · intro φ' h; exact absurd h hf
        · intro φ' _ h1 h2 h3 h4 h9 h10
          rw [hrk]
          simp [r_r19_stmt_0, h1, h2, h3, h4, h9, h10, hhas]
        all_goals simp
      · rw [if_neg h15] at hrk
        by_cases hfb2 : (Sm.rks (hasN names) R.get b (no + 1)).1 ≠ 0
        · rw [if_pos hfb2] at hrk
          refine hz _ ?_ _ (hloop _ _ (some (.tup [.sl 2 [], .agg [.int .i64 z.2.1, .int .i64 z.2.2]], [])) ?_ ?_ ?_ ?_ ?_ ?_ ?_ ?_ ?_)
          · rw [hQ]
            exact ⟨[], _, .inl rfl, rfl, fun h => by rw [hrk] at h; exact absurd h hfb2⟩
          · intro φ' h; exact absurd h hf
          · intro φ' _ h1 h2 h3 h4 h9 h10
            rw [hrk]
            generalize Sm.rks (hasN names) R.get b (no + 1) = q at hbv hfb2 ⊢
            by_cases hop : op = 15
            · have hh : hasN names s = true := by simpa using fun h => h15 ⟨hop, h⟩
              rw [hh] at hhas
              subst hop
              simp [r_r19_stmt_0, h1, h2, h3, h4, h9, hhas, hw1, hbv, hfb2]
            · simp [r_r19_stmt_0, h1, h2, h3, h4, h9, h12, hop, hw1, hbv, hfb2]
          all_goals simp
        · rw [if_neg hfb2] at hrk
          simp only [ne_eq, Decidable.not_not] at hfb2
          refine hz _ ?_ _ (hloop _ _ (some (.tup [.sl 2 (rrows R), .agg [.int .i64 z.2.1, .int .i64 z.2.2]], [])) ?_ ?_ ?_ ?_ ?_ ?_ ?_ ?_ ?_)
          · rw [hQ]
            exact ⟨R, _, .inl rfl, rfl, fun h => by rw [hrk]; exact ⟨rfl, hNZ, by omega⟩⟩
          · intro φ' h; exact absurd h hf
          · intro φ' _ h1 h2 h3 h4 h9 h10
            rw [hrk]
            generalize Sm.rks (hasN names) R.get b (no + 1) = q at hbv hfb2 ⊢
            by_cases hop : op = 15
            · have hh : hasN names s = true := by simpa using fun h => h15 ⟨hop, h⟩
              rw [hh] at hhas
              subst hop
              simp [r_r19_stmt_0, h1, h2, h3, h4, h9, hhas, hw1, hbv, hfb2, hcount, hw2, hcv]
            · simp [r_r19_stmt_0, h1, h2, h3, h4, h9, h12, hop, hw1, hbv, hfb2, hcount, hw2, hcv]
          all_goals simp
theorem rblock_loop (names : List Nm) (hN : names.length ≤ 50000) (L : List Sm) (hL : Sm.sizes L ≤ 1000) (hst : ∀ x ∈ L, StRef x) (R0 : Mp) (no0 : Int) (k : List Item) (X : Option (V × Heap))
    (hret : ∀ φ' T, (Sm.rks (hasN names) R0.get L no0).1 ≠ 0 → Fr.get φ' 8 = .ptr 0 0 → retK k φ' (some [.int .i64 (Sm.rks (hasN names) R0.get L no0).1, .int .i64 (Sm.rks (hasN names) R0.get L no0).2] :: T) = X)
    (hexit : ∀ φ' T a b, Sm.rks (hasN names) R0.get L no0 = (0, 0) → Fr.get φ' 8 = .ptr 0 0 → M (eval tbl noExt) k φ' (some [.int .i64 a, .int .i64 b] :: T) = X) :
    ∀ (l : List Sm) (i : Nat) (R : Mp) (no : Int) (φ : Fr) (T : Heap) (a b : Int) (v : V), L.drop i = l → Sm.rks (hasN names) R0.get L no0 = Sm.rks (hasN names) R.get l no → NZ R → R.length + Sm.sizes l ≤ 50000 → 0 ≤ no → no + Sm.sizes l ≤ 1000000 →
      Fr.get φ 0 = .sl 7 (Sm.rows L) → Fr.get φ 1 = .int .i64 no → (v = .sl 2 (rrows R) ∨ v = .own 2 (rrows R)) → Fr.get φ 2 = v → Fr.get φ 3 = .sl 1 (nrows names) → Fr.get φ 8 = .ptr 0 0 → Fr.get φ 9 = .int .i64 i →
      M (eval tbl noExt) (.code l_r19_block_0 :: .blk 0 :: k) φ (some [.int .i64 a, .int .i64 b] :: T) = X := by
  have hrl : (Sm.rows L).length = L.length := by rw [Sm.rows_eq]; simp
  have hLl := Sm.sizes_ge L
  intro l
  induction l with
  | nil =>
    intro i R no φ T a b v hd e1 hNZ hRl hn1 hn2 h0 h1 hv h2 h3 h8 h9
    have hi : L.length ≤ i := by rw [← Nat.sub_eq_zero_iff_le, ← List.length_drop, hd]; rfl
    have hlt : ¬ ((i : Int) < L.length) := by omega
    rw [Sm.rks] at e1
    rw [l_r19_block_0, M_loop, ← l_r19_block_0]
    rcases hv with rfl | rfl
    · simp [b_r19_block_0, h0, h1, h2, h3, h8, h9, hrl, hlt]
      exact hexit _ _ _ _ e1 (by simp [h8])
    · simp [b_r19_block_0, h0, h1, h2, h3, h8, h9, hrl, hlt]
      exact hexit _ _ _ _ e1 (by simp [h8])
  | cons x l ih =>
    intro i R no φ T a b v hd e1 hNZ hRl hn1 hn2 h0 h1 hv h2 h3 h8 h9
    have hi : i < L.length := by
      have : (L.drop i).length = l.length + 1 := by rw [hd]; rfl
      rw [List.length_drop] at this; omega
    have hlt : (i : Int) < L.length := by omega
    have hLx : L[i]? = some x := by rw [← List.head?_drop, hd]; rfl
    have hmem : x ∈ L := List.mem_of_getElem? hLx
    have hd1 : L.drop (i + 1) = l := by rw [← List.tail_drop, hd]; rfl
    have hr : (Sm.rows L)[i]? = some x.cells := by rw [Sm.rows_eq, List.getElem?_map, hLx]; rfl
    have hr2 : ∀ h, (Sm.rows L)[i]'h = x.cells := fun h => by rw [List.getElem?_eq_getElem h] at hr; exact Option.some.inj hr
    have hw : IntKind.i64.wrap ((i : Int) + 1) = ((i + 1 : Nat) : Int) := by rw [w64 (by omega) (by omega)]; rfl
    have hxs := Sm.sizes_mem hmem
    simp only [Sm.sizes] at hRl hn2
    obtain ⟨R', v', hv', hev, hR'⟩ := hst x hmem R names no hNZ (by omega) hN hn1 (by omega)
    have e2 : Sm.rks (hasN names) R0.get L no0 = if (x.rk (hasN names) R.get no).2.1 ≠ 0 then (x.rk (hasN names) R.get no).2 else Sm.rks (hasN names) (x.rk (hasN names) R.get no).1 l (no + x.flat.length) := by rw [e1, Sm.rks]
    clear e1
    obtain ⟨op, s, n, e, bb, cc, g⟩ := x
    simp only [Sm.size] at hxs hn2 hRl
    have hcb := refCount_ok 1000 bb (by omega) (Nat.le_refl _)
    have hcc := refCount_ok 1000 cc (by omega) (Nat.le_refl _)
    have hfb := Sm.flats_sizes bb
    have hfc := Sm.flats_sizes cc
    have hw1 : IntKind.i64.wrap (no + 1) = no + 1 := by rw [w64 (by omega) (by omega)]
    have hw2 : IntKind.i64.wrap (no + 1 + (Sm.flats bb).length) = no + 1 + (Sm.flats bb).length := by rw [w64 (by omega) (by omega)]
    have hw3 : IntKind.i64.wrap (no + 1 + (Sm.flats bb).length + (Sm.flats cc).length) = no + 1 + (Sm.flats bb).length + (Sm.flats cc).length := by rw [w64 (by omega) (by omega)]
    have hfl : ((Sm.mk op s n e bb cc g).flat.length : Int) = 1 + (Sm.flats bb).length + (Sm.flats cc).length := by simp only [Sm.flat, List.length_cons, List.length_append]; omega
    generalize (Sm.mk op s n e bb cc g).rk (hasN names) R.get no = z at hev hR' e2
    simp only [Sm.cells] at hr hr2 hev
    rw [l_r19_block_0, M_loop, ← l_r19_block_0]
    obtain ⟨z0, z1, z2⟩ := z
    simp only at hev hR' e2
    by_cases hz : z1 = 0
    · subst hz
      obtain ⟨hg1, hg2, hg3⟩ := hR' rfl
      rw [if_neg (by simp), ← hg1, hfl] at e2
      have e3 : no + (1 + (Sm.flats bb).length + (Sm.flats cc).length : Int) = no + 1 + (Sm.flats bb).length + (Sm.flats cc).length := by omega
      rw [e3] at e2
      rcases hv with rfl | rfl
      · rcases hv' with rfl | rfl
        · simp [b_r19_block_0, h0, h1, h2, h3, h8, h9, hrl, hlt, hi, hr, hr2, hw, hev, hcb, hcc, hw1, hw2, hw3]
          refine ih (i + 1) R' _ _ _ a b (.sl 2 (rrows R')) hd1 e2 hg2 (by omega) (by omega) (by omega) ?_ ?_ (.inl rfl) ?_ ?_ ?_ ?_
          all_goals simp [h0, h3, h8]
        · simp [b_r19_block_0, h0, h1, h2, h3, h8, h9, hrl, hlt, hi, hr, hr2, hw, hev, hcb, hcc, hw1, hw2, hw3]
          refine ih (i + 1) R' _ _ _ a b (.own 2 (rrows R')) hd1 e2 hg2 (by omega) (by omega) (by omega) ?_ ?_ (.inr rfl) ?_ ?_ ?_ ?_
          all_goals simp [h0, h3, h8]
      · rcases hv' with rfl | rfl
        · simp [b_r19_block_0, h0, h1, h2, h3, h8, h9, hrl, hlt, hi, hr, hr2, hw, hev, hcb, hcc, hw1, hw2, hw3]
          refine ih (i + 1) R' _ _ _ a b (.sl 2 (rrows R')) hd1 e2 hg2 (by omega) (by omega) (by omega) ?_ ?_ (.inl rfl) ?_ ?_ ?_ ?_
          all_goals simp [h0, h3, h8]
        · simp [b_r19_block_0, h0, h1, h2, h3, h8, h9, hrl, hlt, hi, hr, hr2, hw, hev, hcb, hcc, hw1, hw2, hw3]
          refine ih (i + 1) R' _ _ _ a b (.own 2 (rrows R')) hd1 e2 hg2 (by omega) (by omega) (by omega) ?_ ?_ (.inr rfl) ?_ ?_ ?_ ?_
          all_goals simp [h0, h3, h8]
    · rw [if_pos hz] at e2
      rw [e2] at hret
      rcases hv with rfl | rfl
      · rcases hv' with rfl | rfl
        · simp [b_r19_block_0, h0, h1, h2, h3, h8, h9, hrl, hlt, hi, hr, hr2, hw, hev, hz]
          exact hret _ _ hz (by simp [h8])
        · simp [b_r19_block_0, h0, h1, h2, h3, h8, h9, hrl, hlt, hi, hr, hr2, hw, hev, hz]
          exact hret _ _ hz (by simp [h8])
      · rcases hv' with rfl | rfl
        · simp [b_r19_block_0, h0, h1, h2, h3, h8, h9, hrl, hlt, hi, hr, hr2, hw, hev, hz]
          exact hret _ _ hz (by simp [h8])
        · simp [b_r19_block_0, h0, h1, h2, h3, h8, h9, hrl, hlt, hi, hr, hr2, hw, hev, hz]
          exact hret _ _ hz (by simp [h8])
theorem rblock_step (L : List Sm) (hL : Sm.sizes L ≤ 1000) (hst : ∀ x ∈ L, StRef x) : BlRef L := by
  intro R names no hNZ hR hN hn1 hn2
  rw [eval_M rfl rfl t_r19_block rfl]
  simp [c_r19_block]
  refine rblock_loop names hN L hL hst R no _ _ ?_ ?_ L 0 R no _ [] 0 0 (.sl 2 (rrows R)) rfl rfl hNZ hR hn1 hn2 ?_ ?_ (.inl rfl) ?_ ?_ ?_ ?_
  · intro φ' T _ h8
    simp [h8]
  · intro φ' T a b h0 h8
    rw [h0]
    simp [r_r19_block_0, h8]
  all_goals simp
theorem rblock_ok : ∀ (n : Nat) (l : List Sm) (d : Nat), Sm.sizes l ≤ n → n ≤ 1000 → Sm.oks l d = true → BlRef l := by
  intro n
  induction n with
  | zero =>
    intro l d hn _ hok
    cases l with
    | nil => exact rblock_step [] (by simp [Sm.sizes]) (by simp)
    | cons x l => cases x; simp only [Sm.sizes, Sm.size] at hn; omega
  | succ n ih =>
    intro l d hn hn2 hok
    refine rblock_step l (by omega) fun x hx => ?_
    have hxs := Sm.sizes_mem hx
    have hxok : x.ok d = true := by rw [Sm.oks_all, List.all_eq_true] at hok; exact hok x hx
    obtain ⟨op, s, m, e, b1, b2, g⟩ := x
    obtain ⟨h1, h2⟩ := Sm.ok_in hxok
    simp only [Sm.size] at hxs
    have hel := Ex.sizes_ge e
    exact rstmt_step op m s e b1 b2 g d hxok (by omega) (by omega) (ih _ _ (by omega) (by omega) h1) (ih _ _ (by omega) (by omega) h2)
end Go.AM.Spec
namespace Go.AM.Spec
set_option linter.unusedVariables false
set_option linter.unusedSimpArgs false
set_option maxHeartbeats 4000000
set_option maxRecDepth 10000
theorem get_none : Mp.get ([] : Mp) = env0 := by funext t; rfl
theorem NZ.nil : NZ [] := fun x h => by simp at h
theorem nrows_plain (l : List Nm) : ((nrows l).all fun r => r.all V.plain) = true := by
  simp [nrows]
theorem rprocs_loop (p : Pg) (hp : ∀ x ∈ p.procs, Sm.oks x.2 1 = true) (hs : ∀ x ∈ p.procs, Sm.sizes x.2 ≤ 1000) (hl : p.procs.length ≤ 1000) (k : List Item) (X : Option (V × Heap))
    (hret : ∀ φ' T, (procsR p.procs [] 0).1.1 ≠ 0 → Fr.get φ' 2 = .ptr 1 0 → retK k φ' (some p.cells :: some [.int .i64 (procsR p.procs [] 0).1.1, .int .i64 (procsR p.procs [] 0).1.2] :: T) = X)
    (hexit : ∀ φ' T, (procsR p.procs [] 0).1 = (0, 0) → Fr.get φ' 1 = .ptr 0 0 → Fr.get φ' 2 = .ptr 1 0 → Fr.get φ' 3 = .int .i64 (procsR p.procs [] 0).2.2 → Fr.get φ' 4 = .own 1 (nrows (procsR p.procs [] 0).2.1) → (procsR p.procs [] 0).2.1.length ≤ 1000 →
      0 ≤ (procsR p.procs [] 0).2.2 → (procsR p.procs [] 0).2.2 ≤ 40000 → M (eval tbl noExt) k φ' (some p.cells :: some [.int .i64 0, .int .i64 0] :: T) = X) :
    ∀ (l : List (Nm × List Sm)) (i : Nat) (names : List Nm) (no : Int) (φ : Fr) (T : Heap), p.procs.drop i = l → procsR p.procs [] 0 = procsR l names no → names.length + l.length ≤ 1000 → 0 ≤ no → no + psz l ≤ 40000 →
      Fr.get φ 1 = .ptr 0 0 → Fr.get φ 2 = .ptr 1 0 → Fr.get φ 3 = .int .i64 no → Fr.get φ 4 = .own 1 (nrows names) → Fr.get φ 5 = .int .i64 i →
      M (eval tbl noExt) (.code l_r19_Check_0 :: .blk 0 :: k) φ (some p.cells :: some [.int .i64 0, .int .i64 0] :: T) = X := by
  have hpl := p.pcells_len
  simp only [Pg.cells] at hret hexit ⊢
  intro l
  induction l with
  | nil =>
    intro i names no φ T hd e1 hnm hn1 hn2 h1 h2 h3 h4 h5
    have hi : p.procs.length ≤ i := by rw [← Nat.sub_eq_zero_iff_le, ← List.length_drop, hd]; rfl
    have hlt : ¬ ((i : Int) < p.procs.length) := by omega
    rw [procsR] at e1
    rw [e1] at hexit
    simp only [psz, List.map_nil, List.sum_nil] at hn2
    have hni : names.length ≤ 1000 := by simp at hnm; exact hnm
    rw [l_r19_Check_0, M_loop, ← l_r19_Check_0]
    simp [b_r19_Check_0, h1, h2, h3, h4, h5, hpl, hlt]
    refine hexit _ _ rfl ?_ ?_ ?_ ?_ hni hn1 (by simp only; omega)
    · simp [h1]
    · simp [h2]
    · simp [h3]
    · simp [h4]
  | cons x l ih =>
    intro i names no φ T hd e1 hnm hn1 hn2 h1 h2 h3 h4 h5
    have hi : i < p.procs.length := by
      have : (p.procs.drop i).length = l.length + 1 := by rw [hd]; rfl
      rw [List.length_drop] at this; omega
    have hlt : (i : Int) < p.procs.length := by omega
    have hLx : p.procs[i]? = some x := by rw [← List.head?_drop, hd]; rfl
    have hmem : x ∈ p.procs := List.mem_of_getElem? hLx
    have hd1 : p.procs.drop (i + 1) = l := by rw [← List.tail_drop, hd]; rfl
    have hw : IntKind.i64.wrap ((i : Int) + 1) = ((i + 1 : Nat) : Int) := by rw [w64 (by omega) (by omega)]; rfl
    have hxok := hp x hmem
    have hxs := hs x hmem
    obtain ⟨nm, body⟩ := x
    have hr : p.pcells[i]? = some [.str nm, .sl 7 (Sm.rows body)] := by rw [Pg.pcells, List.getElem?_map, hLx]; rfl
    have hr2 : ∀ h, p.pcells[i]'h = [.str nm, .sl 7 (Sm.rows body)] := fun h => by rw [List.getElem?_eq_getElem h] at hr; exact Option.some.inj hr
    simp only [psz, List.map_cons, List.sum_cons] at hn2
    simp only [List.length_cons] at hnm
    have hhas := rhas_eq names (by omega) nm
    have hfb := Sm.flats_sizes body
    have hblock := rblock_ok 1000 body 1 hxs (Nat.le_refl _) hxok [] names no NZ.nil (by simp; omega) (by omega) hn1 (by omega)
    rw [get_none, show rrows ([] : Mp) = [] from rfl] at hblock
    have hcount := refCount_ok 1000 body hxs (Nat.le_refl _)
    have hwn : IntKind.i64.wrap (no + (Sm.flats body).length) = no + (Sm.flats body).length := by rw [w64 (by omega) (by omega)]
    have hnl : (nrows names).length = names.length := by simp [nrows]
    have hcap : 2 * (names.length + 1) * 16 ≤ 281474976710656 := by omega
    have hnp := nrows_plain names
    have hns : nrows names ++ [[.str nm]] = nrows (names ++ [nm]) := by simp [nrows]
    rw [procsR] at e1
    rw [l_r19_Check_0, M_loop, ← l_r19_Check_0]
    cases hh : hasN names nm with
    | true =>
      rw [hh] at hhas
      rw [if_pos (by simpa using hh)] at e1
      rw [e1] at hret
      simp [b_r19_Check_0, h1, h2, h3, h4, h5, hpl, hlt, hi, hr, hr2, hhas]
      exact hret _ _ (by simp) (by simp [h2])
    | false =>
      rw [hh] at hhas
      rw [if_neg (by simp [hh])] at e1
      simp only at e1
      by_cases hf : (Sm.rks (hasN names) env0 body no).1 ≠ 0
      · rw [if_pos hf] at e1
        rw [e1] at hret
        simp only at hret
        generalize Sm.rks (hasN names) env0 body no = z at hblock hf hret
        simp [b_r19_Check_0, h1, h2, h3, h4, h5, hpl, hlt, hi, hr, hr2, hhas, hblock, hf]
        exact hret _ _ hf (by simp [h2])
      · rw [if_neg hf] at e1
        simp only [ne_eq, Decidable.not_not] at hf
        generalize Sm.rks (hasN names) env0 body no = z at hblock hf
        simp [b_r19_Check_0, h1, h2, h3, h4, h5, hpl, hlt, hi, hr, hr2, hw, hhas, hblock, hf, hcount, hwn, hnl, hcap, hnp, hns, -List.all_eq_true]
        refine ih (i + 1) _ _ _ _ hd1 e1 (by simp; omega) (by omega) (by simp only [psz]; omega) ?_ ?_ ?_ ?_ ?_
        · simp [h1]
        · simp [h2]
        · simp
        · simp
        · simp
theorem roracles_loop (p : Pg) (hp : ∀ x ∈ p.oracles, x.2.ok 8 = true) (hl : p.oracles.length ≤ 1000) (no : Int) (hn1 : 0 ≤ no) (hn2 : no ≤ 100000) (k : List Item) (X : Option (V × Heap))
    (hret : ∀ φ' T, (oraclesR p.oracles [] no).1 ≠ 0 → Fr.get φ' 2 = .ptr 1 0 → retK k φ' (some p.cells :: some [.int .i64 (oraclesR p.oracles [] no).1, .int .i64 (oraclesR p.oracles [] no).2] :: T) = X)
    (hexit : ∀ φ' T, oraclesR p.oracles [] no = (0, 0) → Fr.get φ' 2 = .ptr 1 0 → M (eval tbl noExt) k φ' (some p.cells :: some [.int .i64 0, .int .i64 0] :: T) = X) :
    ∀ (l : List (Nm × Ex)) (i : Nat) (seen : List Nm) (φ : Fr) (T : Heap), p.oracles.drop i = l → oraclesR p.oracles [] no = oraclesR l seen (no + i) → seen.length + l.length ≤ 1000 →
      Fr.get φ 1 = .ptr 0 0 → Fr.get φ 2 = .ptr 1 0 → Fr.get φ 3 = .int .i64 no → Fr.get φ 9 = .own 1 (nrows seen) → Fr.get φ 10 = .int .i64 i →
      M (eval tbl noExt) (.code l_r19_Check_1 :: .blk 2 :: k) φ (some p.cells :: some [.int .i64 0, .int .i64 0] :: T) = X := by
  have hol := p.ocells_len
  have h00 := oraclesR_num p.oracles [] no
  simp only [Pg.cells] at hret hexit ⊢
  intro l
  induction l with
  | nil =>
    intro i seen φ T hd e1 hnm h1 h2 h3 h9 h10
    have hi : p.oracles.length ≤ i := by rw [← Nat.sub_eq_zero_iff_le, ← List.length_drop, hd]; rfl
    have hlt : ¬ ((i : Int) < p.oracles.length) := by omega
    rw [oraclesR] at e1
    rw [l_r19_Check_1, M_loop, ← l_r19_Check_1]
    simp [b_r19_Check_1, h1, h2, h3, h9, h10, hol, hlt]
    refine hexit _ _ e1 ?_
    simp [h2]
  | cons x l ih =>
    intro i seen φ T hd e1 hnm h1 h2 h3 h9 h10
    have hi : i < p.oracles.length := by
      have : (p.oracles.drop i).length = l.length + 1 := by rw [hd]; rfl
      rw [List.length_drop] at this; omega
    have hlt : (i : Int) < p.oracles.length := by omega
    have hLx : p.oracles[i]? = some x := by rw [← List.head?_drop, hd]; rfl
    have hmem : x ∈ p.oracles := List.mem_of_getElem? hLx
    have hd1 : p.oracles.drop (i + 1) = l := by rw [← List.tail_drop, hd]; rfl
    have hw : IntKind.i64.wrap ((i : Int) + 1) = ((i + 1 : Nat) : Int) := by rw [w64 (by omega) (by omega)]; rfl
    have hwn : IntKind.i64.wrap (no + i) = no + i := by rw [w64 (by omega) (by omega)]
    have hxok := hp x hmem
    obtain ⟨nm, e⟩ := x
    have hr := p.orow hLx
    have hr2 : ∀ h, p.ocells[i]'h = .str nm :: e.cells := fun h => by rw [List.getElem?_eq_getElem h] at hr; exact Option.some.inj hr
    simp only [List.length_cons] at hnm
    have hhas := rhas_eq seen (by omega) nm
    have htype := rtype_ok [] (by simp) e.size e (Nat.le_refl _) (Ex.ok_thin e 8 hxok)
    unfold RtOK at htype
    rw [get_none, show rrows ([] : Mp) = [] from rfl] at htype
    have hnl : (nrows seen).length = seen.length := by simp [nrows]
    have hcap : 2 * (seen.length + 1) * 16 ≤ 281474976710656 := by omega
    have hnp := nrows_plain seen
    have hns : nrows seen ++ [[.str nm]] = nrows (seen ++ [nm]) := by simp [nrows]
    rw [oraclesR] at e1
    obtain ⟨op, n, s, y⟩ := e
    generalize (Ex.mk op n s y).ty env0 = z at htype e1
    obtain ⟨z1, z2⟩ := z
    simp only [Ex.cells] at hr hr2 htype
    simp only at e1
    rw [l_r19_Check_1, M_loop, ← l_r19_Check_1]
    cases hh : hasN seen nm with
    | true =>
      rw [hh] at hhas
      rw [if_pos (by simpa using hh)] at e1
      rw [e1] at hret
      simp [b_r19_Check_1, h1, h2, h3, h9, h10, hol, hlt, hi, hr, hr2, hhas, hwn]
      exact hret _ _ (by simp) (by simp [h2])
    | false =>
      rw [hh] at hhas
      rw [if_neg (by simp [hh])] at e1
      by_cases hf : z2 ≠ 0
      · rw [if_pos hf] at e1
        rw [e1] at hret
        simp [b_r19_Check_1, h1, h2, h3, h9, h10, hol, hlt, hi, hr, hr2, hhas, htype, hf, hwn]
        exact hret _ _ hf (by simp [h2])
      · rw [if_neg hf] at e1
        simp only [ne_eq, Decidable.not_not] at hf
        subst hf
        by_cases h3' : z1 ≠ 3
        · rw [if_pos h3'] at e1
          rw [e1] at hret
          simp [b_r19_Check_1, h1, h2, h3, h9, h10, hol, hlt, hi, hr, hr2, hhas, htype, h3', hwn]
          exact hret _ _ (by simp) (by simp [h2])
        · rw [if_neg h3'] at e1
          simp only [ne_eq, Decidable.not_not] at h3'
          subst h3'
          simp [b_r19_Check_1, h1, h2, h3, h9, h10, hol, hlt, hi, hr, hr2, hw, hhas, htype, hnl, hcap, hnp, hns, -List.all_eq_true]
          refine ih (i + 1) _ _ _ hd1 (by rw [e1]; congr 1; omega) (by simp; omega) ?_ ?_ ?_ ?_ ?_
          · simp [h1]
          · simp [h2]
          · simp [h3]
          · simp
          · simp
theorem refCheck_eq (p : Pg) (h : p.Fine) (hs : p.size ≤ 600) : eval tbl noExt n_r19_Check [.agg p.cells] [] = some (.agg [.int .i64 p.typed.1, .int .i64 p.typed.2], []) := by
  have hR := refRight_eq p h (by omega) []
  have hl := p.lens h.size
  unfold Pg.typed
  cases hok : p.ok with
  | false =>
    rw [hok] at hR
    rw [eval_M rfl rfl t_r19_Check rfl]
    simp only [Pg.cells] at hR ⊢
    simp [c_r19_Check, hR]
  | true =>
    rw [hok] at hR
    obtain ⟨hp1, hp2, hp3, hp4⟩ := p.ok_parts hok
    have hps : psz p.procs = p.psize := rfl
    have hsize : p.size = p.psize + Sm.sizes p.main + Sm.sizes p.recover + p.osize := rfl
    have hpsz : ∀ x ∈ p.procs, Sm.sizes x.2 ≤ 1000 := fun x hx => by
      have : ∀ l : List (Nm × List Sm), x ∈ l → Sm.sizes x.2 ≤ psz l := by
        intro l
        induction l with
        | nil => intro h; simp at h
        | cons y l ih =>
          intro h
          simp only [psz, List.map_cons, List.sum_cons] at ih ⊢
          rcases List.mem_cons.1 h with rfl | h
          · omega
          · have := ih h; omega
      have := this _ hx; omega
    have hpll : ∀ l : List (Nm × List Sm), l.length ≤ psz l := by
      intro l
      induction l with
      | nil => simp [psz]
      | cons y l ih => simp only [psz, List.map_cons, List.sum_cons, List.length_cons] at ih ⊢; omega
    have hpl1 := hpll p.procs
    have holl : ∀ l : List (Nm × Ex), l.length ≤ osz l := by
      intro l
      induction l with
      | nil => simp [osz]
      | cons y l ih => simp only [osz, List.map_cons, List.sum_cons, List.length_cons] at ih ⊢; omega
    have hol1 := holl p.oracles
    have hos : osz p.oracles = p.osize := rfl
    have hpl2 : p.procs.length ≤ 1000 := by omega
    have hol2 : p.oracles.length ≤ 1000 := by omega
    rw [if_pos rfl]
    have hrest := rkF_rest p
    have hnum := (procsR_num p.procs [] 0).2
    have hloop := fun k φ T X hret hexit h1 h2 h3 h4 h5 => rprocs_loop p hp1 hpsz hpl2 k X hret hexit p.procs 0 [] 0 φ T rfl rfl (by simp; omega) (by omega) (by omega) h1 h2 h3 h4 h5
    have hol := fun no hn1 hn2 k φ T X hret hexit h1 h2 h3 h9 h10 => roracles_loop p hp2 hol2 no hn1 hn2 k X hret hexit p.oracles 0 [] φ T rfl (by simp) (by simp; omega) h1 h2 h3 h9 h10
    rw [eval_M rfl rfl t_r19_Check rfl]
    simp only [Pg.cells] at hR hloop hol ⊢
    simp [c_r19_Check, hR]
    refine hloop _ _ _ _ ?_ ?_ ?_ ?_ ?_ ?_ ?_
    · intro φ' T hf h2
      rw [if_pos hf] at hrest
      rw [hrest]
      simp [h2]
    · intro φ' T h0 h1 h2 h3 h4 hn hn1 hn2
      rw [h0, if_neg (by simp)] at hrest
      clear hloop h0 hnum
      generalize (procsR p.procs [] 0).2.1 = names at *
      generalize (procsR p.procs [] 0).2.2 = no at *
      have hfm := Sm.flats_sizes p.main
      have hfr := Sm.flats_sizes p.recover
      have hbm := rblock_ok 1000 p.main 1 (by omega) (Nat.le_refl _) hp3 [] names no NZ.nil (by simp; omega) (by omega) hn1 (by omega)
      have hbr := rblock_ok 1000 p.recover 1 (by omega) (Nat.le_refl _) hp4 [] names (no + (Sm.flats p.main).length) NZ.nil (by simp; omega) (by omega) (by omega) (by omega)
      rw [get_none, show rrows ([] : Mp) = [] from rfl] at hbm hbr
      have hcm := refCount_ok 1000 p.main (by omega) (Nat.le_refl _)
      have hcr := refCount_ok 1000 p.recover (by omega) (Nat.le_refl _)
      have hw1 : IntKind.i64.wrap (no + (Sm.flats p.main).length) = no + (Sm.flats p.main).length := by rw [w64 (by omega) (by omega)]
      have hw2 : IntKind.i64.wrap (no + (Sm.flats p.main).length + (Sm.flats p.recover).length) = no + (Sm.flats p.main).length + (Sm.flats p.recover).length := by rw [w64 (by omega) (by omega)]
      unfold restR at hrest
      by_cases c1 : (Sm.rks (hasN names) env0 p.main no).1 ≠ 0
      · rw [if_pos c1] at hrest
        rw [hrest]
        generalize Sm.rks (hasN names) env0 p.main no = z at hbm c1 ⊢
        simp [r_r19_Check_1, h1, h2, h3, h4, hbm, c1]
      · rw [if_neg c1] at hrest
        simp only [ne_eq, Decidable.not_not] at c1
        generalize Sm.rks (hasN names) env0 p.main no = z at hbm c1
        by_cases c2 : (Sm.rks (hasN names) env0 p.recover (no + (Sm.flats p.main).length)).1 ≠ 0
        · rw [if_pos c2] at hrest
          rw [hrest]
          generalize Sm.rks (hasN names) env0 p.recover (no + (Sm.flats p.main).length) = y at hbr c2 ⊢
          simp [r_r19_Check_1, h1, h2, h3, h4, hbm, c1, hcm, hw1, hbr, c2]
        · rw [if_neg c2] at hrest
          simp only [ne_eq, Decidable.not_not] at c2
          generalize Sm.rks (hasN names) env0 p.recover (no + (Sm.flats p.main).length) = y at hbr c2
          rw [hrest]
          simp [r_r19_Check_1, h1, h2, h3, h4, hbm, c1, hcm, hw1, hbr, c2, hcr, hw2]
          refine hol (no + (Sm.flats p.main).length + (Sm.flats p.recover).length) (by omega) (by omega) _ _ _ _ ?_ ?_ ?_ ?_ ?_ ?_ ?_
          · intro φ2 T2 hf j2
            simp [j2]
          · intro φ2 T2 h00 j2
            rw [h00]
            simp [r_r19_Check_0, j2]
          all_goals simp [h1, h2, nrows]
    all_goals simp [nrows]
end Go.AM.Spec
namespace Go.AM.Spec
set_option linter.unusedVariables false
set_option linter.unusedSimpArgs false
set_option maxHeartbeats 4000000
set_option maxRecDepth 10000
def ofV (e : Ex) : V := if e.ok 8 then .tup [.int .i64 (e.ty env0).1, .bool (decide ((e.ty env0).2 = 0))] else .tup [.int .i64 0, .bool false]
theorem Of_1_eq (s : Nm) (H : Heap) : eval tbl noExt n_types_Of_1 [.str s] H = some (.int .i64 0, H) := by
  rw [eval_M rfl rfl t_types_Of_1 rfl]
  simp [c_types_Of_1]
theorem Of_eq (e : Ex) (hs : e.size ≤ 1000) (ht : e.txt) : eval tbl noExt n_types_Of [.agg e.cells] [] = some (ofV e, []) := by
  let p : Pg := { procs := [], main := [], recover := [], oracles := [([97], e)] }
  have hF : p.Fine := ⟨by simp [p, Pg.size, Pg.psize, Pg.osize, Sm.sizes]; omega, by simp [p, Pg.txt, Sm.txts, ht]⟩
  have hok : p.ok = e.ok 8 := by
    have hn : isName [97] = true := by decide
    simp [p, Pg.ok, hn, Sm.oks, Pg.flats, Pg.parts, Sm.flats]
  have hR := fun H => Right_eq p hF H
  rw [hok] at hR
  have hcells : p.cells = [.sl 2 [], .sl 7 [], .sl 7 [], .sl 5 [.str [97] :: e.cells]] := by simp [p, Pg.cells, Pg.pcells, Pg.ocells, Sm.rows]
  rw [hcells] at hR
  clear_value p
  rw [eval_M rfl rfl t_types_Of rfl]
  unfold ofV
  have hof := fun (he : e.thin = true) T => of_ok [] n_types_Of_1 [] [] env0 ⟨lt_types_Of_1, fun T s => Of_1_eq s _⟩ e.size e (Nat.le_refl _) he T
  have hth := fun h => Ex.ok_thin e 8 h
  generalize e.ty env0 = z at hof ⊢
  generalize e.ok 8 = b at hR hth ⊢
  generalize e.thin = th at hof hth
  obtain ⟨op, n, s, y⟩ := e
  simp only [Ex.cells] at hof hR ⊢
  cases b with
  | false => simp [c_types_Of, hR]
  | true =>
    have hof := hof (hth rfl)
    simp only [List.nil_append] at hof
    simp [c_types_Of, hR, hof]
theorem refOf_eq (e : Ex) (hs : e.size ≤ 1000) (ht : e.txt) : eval tbl noExt n_r19_Of [.agg e.cells] [] = some (ofV e, []) := by
  have hE := expr_ref 1000 e hs (by omega) ht 8 (by omega)
  unfold RxOK at hE
  rw [eval_M rfl rfl t_r19_Of rfl]
  unfold ofV
  have hty := fun (he : e.thin = true) => rtype_ok [] (by simp) e.size e (Nat.le_refl _) he
  unfold RtOK at hty
  rw [get_none, show rrows ([] : Mp) = [] from rfl] at hty
  have hth := fun h => Ex.ok_thin e 8 h
  generalize e.ty env0 = z at hty ⊢
  generalize e.ok 8 = b at hE hth ⊢
  generalize e.thin = th at hty hth
  obtain ⟨op, n, s, y⟩ := e
  simp only [Ex.cells] at hty hE ⊢
  cases b with
  | false =>
    simp at hE
    simp [c_r19_Of, hE]
  | true =>
    have hty := hty (hth rfl)
    simp at hE
    simp [c_r19_Of, hE, hty]
theorem Fault_eq (a b c d : Int) : eval tbl noExt n_l15_Fault [.agg [.int .i64 a, .int .i64 b], .agg [.int .i64 c, .int .i64 d]] [] = some (.bool (decide (a = c) && decide (b = d)), []) := by
  rw [eval_M rfl rfl t_l15_Fault rfl]
  by_cases h1 : a = c
  · by_cases h2 : b = d
    · simp [c_l15_Fault, h1, h2]
    · simp [c_l15_Fault, h1, h2]
  · simp [c_l15_Fault, h1]
theorem Pg.chk_typed (p : Pg) : p.chk = p.typed := by
  unfold Pg.chk Pg.typed
  cases h : p.ok with
  | false => rfl
  | true => simp only [if_true]; exact Pg.chk_rk h
end Go.AM.Spec
namespace Go.AM.Spec
set_option linter.unusedVariables false
set_option linter.unusedSimpArgs false
set_option maxHeartbeats 4000000
set_option maxRecDepth 10000
theorem knows19 : eval tbl noExt n_flotsamlaw19_knows [] [] = some (.bool true, []) := (eval_iff _ _ _ _ _ _).2 ⟨400, by kernel_rfl⟩
theorem typesCheck_loop (p : Pg) (hs : ∀ x ∈ p.oracles, x.2.size ≤ 1000 ∧ x.2.txt) (hl : p.oracles.length ≤ 1000) (k : List Item) (X : Option (V × Heap))
    (hexit : ∀ φ', Fr.get φ' 1 = .ptr 0 0 → M (eval tbl noExt) k φ' [some p.cells] = X) :
    ∀ (l : List (Nm × Ex)) (i : Nat) (φ : Fr), p.oracles.drop i = l → Fr.get φ 1 = .ptr 0 0 → Fr.get φ 3 = .int .i64 i →
      M (eval tbl noExt) (.code l_flotsamlaw19_TypesCheck_0 :: .blk 0 :: k) φ [some p.cells] = X := by
  have hol := p.ocells_len
  simp only [Pg.cells] at hexit ⊢
  intro l
  induction l with
  | nil =>
    intro i φ hd h1 h3
    have hi : p.oracles.length ≤ i := by rw [← Nat.sub_eq_zero_iff_le, ← List.length_drop, hd]; rfl
    have hlt : ¬ ((i : Int) < p.oracles.length) := by omega
    rw [l_flotsamlaw19_TypesCheck_0, M_loop, ← l_flotsamlaw19_TypesCheck_0]
    simp [b_flotsamlaw19_TypesCheck_0, h1, h3, hol, hlt]
    refine hexit _ ?_
    simp [h1]
  | cons x l ih =>
    intro i φ hd h1 h3
    have hi : i < p.oracles.length := by
      have : (p.oracles.drop i).length = l.length + 1 := by rw [hd]; rfl
      rw [List.length_drop] at this; omega
    have hlt : (i : Int) < p.oracles.length := by omega
    have hLx : p.oracles[i]? = some x := by rw [← List.head?_drop, hd]; rfl
    have hmem : x ∈ p.oracles := List.mem_of_getElem? hLx
    have hd1 : p.oracles.drop (i + 1) = l := by rw [← List.tail_drop, hd]; rfl
    have hw : IntKind.i64.wrap ((i : Int) + 1) = ((i + 1 : Nat) : Int) := by rw [w64 (by omega) (by omega)]; rfl
    obtain ⟨hsz, htx⟩ := hs x hmem
    have ho := Of_eq x.2 hsz htx
    have hr' := refOf_eq x.2 hsz htx
    obtain ⟨nm, e⟩ := x
    have hr := p.orow hLx
    have hr2 : ∀ h, p.ocells[i]'h = .str nm :: e.cells := fun h => by rw [List.getElem?_eq_getElem h] at hr; exact Option.some.inj hr
    simp only at ho hr'
    obtain ⟨a, b, hab⟩ : ∃ (a : Int) (b : Bool), ofV e = .tup [.int .i64 a, .bool b] := by
      unfold ofV
      split
      · exact ⟨_, _, rfl⟩
      · exact ⟨_, _, rfl⟩
    rw [hab] at ho hr'
    obtain ⟨op, n, s, y⟩ := e
    simp only [Ex.cells] at hr hr2 ho hr'
    rw [l_flotsamlaw19_TypesCheck_0, M_loop, ← l_flotsamlaw19_TypesCheck_0]
    simp [b_flotsamlaw19_TypesCheck_0, h1, h3, hol, hlt, hi, hr, hr2, ho, hr', hw]
    refine ih (i + 1) _ hd1 ?_ ?_
    · simp [h1]
    · simp
theorem TypesCheck_eq (p : Pg) (hfit : p.fit) : eval tbl noExt n_flotsamlaw19_TypesCheck [.agg p.cells] [] = some (.bool true, []) := by
  obtain ⟨b, hb, hs⟩ := Small_eq p
  rw [eval_M rfl rfl t_flotsamlaw19_TypesCheck rfl]
  cases b with
  | false =>
    simp only [Pg.cells] at hb ⊢
    simp [c_flotsamlaw19_TypesCheck, hb, knows19]
  | true =>
    obtain ⟨hsz, htx⟩ := hs rfl
    have hF : p.Fine := ⟨by omega, htx⟩
    obtain ⟨H', hC⟩ := Check_eq p hF
    have hD := refCheck_eq p hF hsz
    rw [p.chk_typed] at hC
    have hFt := Fault_eq p.typed.1 p.typed.2 p.typed.1 p.typed.2
    have hosz : p.osize ≤ 600 := by simp only [Pg.size] at hsz; omega
    have hos : ∀ x ∈ p.oracles, x.2.size ≤ 1000 ∧ x.2.txt := fun x hx => ⟨by have := osz_mem hx; have : osz p.oracles = p.osize := rfl; omega, (htx.2.2.2 x hx).2⟩
    have hl := p.lens hF.size
    have hol1 : p.oracles.length ≤ 1000 := by
      have : ∀ l : List (Nm × Ex), l.length ≤ osz l := by
        intro l
        induction l with
        | nil => simp [osz]
        | cons y l ih => simp only [osz, List.map_cons, List.sum_cons, List.length_cons] at ih ⊢; omega
      have := this p.oracles
      have : osz p.oracles = p.osize := rfl
      omega
    have hloop := fun k φ X hexit h1 h3 => typesCheck_loop p hos hol1 k X hexit p.oracles 0 φ rfl h1 h3
    simp only [Pg.cells] at hb hC hD hloop ⊢
    simp [c_flotsamlaw19_TypesCheck, hb, knows19]
    refine hloop _ _ _ ?_ ?_ ?_
    · intro φ' h1
      simp [r_flotsamlaw19_TypesCheck_0, h1, hC, hD, hFt]
    all_goals simp
end Go.AM.Spec
