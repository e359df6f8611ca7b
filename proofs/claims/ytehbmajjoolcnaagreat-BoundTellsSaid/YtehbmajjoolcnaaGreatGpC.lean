/-
  The parts of this proof that speak of the functions one by one.
-/
import Derived.Test.YtehbmajjoolcnaaGreatGpA
namespace Go.AM.Spec
set_option linter.unusedVariables false
set_option linter.unusedSimpArgs false
set_option maxHeartbeats 1000000
set_option maxRecDepth 10000
abbrev Nm := List UInt8
abbrev Env := Nm → Int
def tyIs (ok : Bool) (k : Int) : Int × Int := if ok then (k, 0) else (0, 11)
def tyOp (ρ : Env) (op : Int) (s : Nm) (a b : Int) : Int × Int :=
  if op = 1 then (1, 0) else if op = 2 then (2, 0) else if op = 3 then (3, 0) else if op = 4 then (if ρ s = 0 then (0, 9) else (ρ s, 0))
  else if op = 5 then tyIs (a == 2) 3 else if op = 6 then tyIs (a == 2) 1 else if op = 7 then tyIs (a == 2) 2 else if op = 8 then tyIs (a == 3) 3
  else if op = 9 then tyIs (a == b && a != 3) a else if op = 10 then tyIs (a == b && a == 1) 1 else if op = 11 then tyIs (a == b) 3 else if op = 12 then tyIs (a == b && a != 3) 3
  else tyIs (a == b && a == 3) 3
mutual
def Ex.ty (ρ : Env) : Ex → Int × Int
  | .mk op _ s x => if (Ex.tys ρ x).2 ≠ 0 then (0, (Ex.tys ρ x).2) else tyOp ρ op s ((Ex.tys ρ x).1.getD 0 0) ((Ex.tys ρ x).1.getD 1 0)
def Ex.tys (ρ : Env) : List Ex → List Int × Int
  | [] => ([], 0)
  | e :: l => if (e.ty ρ).2 ≠ 0 then ([], (e.ty ρ).2) else ((e.ty ρ).1 :: (Ex.tys ρ l).1, (Ex.tys ρ l).2)
end
theorem tyIs_err (ok : Bool) (k : Int) : (tyIs ok k).2 = 0 ∨ (tyIs ok k).2 = 11 := by cases ok <;> simp [tyIs]
theorem tyOp_err (ρ : Env) (op : Int) (s : Nm) (a b : Int) : (tyOp ρ op s a b).2 = 0 ∨ (tyOp ρ op s a b).2 = 9 ∨ (tyOp ρ op s a b).2 = 11 := by
  have h := fun ok k => tyIs_err ok k
  have h0 : ∀ ok k, (tyIs ok k).2 = 0 ∨ (tyIs ok k).2 = 9 ∨ (tyIs ok k).2 = 11 := fun ok k => (h ok k).elim .inl (fun e => .inr (.inr e))
  unfold tyOp
  by_cases c1 : op = 1
  · rw [if_pos c1]; exact .inl rfl
  rw [if_neg c1]
  by_cases c2 : op = 2
  · rw [if_pos c2]; exact .inl rfl
  rw [if_neg c2]
  by_cases c3 : op = 3
  · rw [if_pos c3]; exact .inl rfl
  rw [if_neg c3]
  by_cases c4 : op = 4
  · rw [if_pos c4]
    by_cases z : ρ s = 0
    · rw [if_pos z]; exact .inr (.inl rfl)
    · rw [if_neg z]; exact .inl rfl
  rw [if_neg c4]
  by_cases c5 : op = 5
  · rw [if_pos c5]; exact h0 _ _
  rw [if_neg c5]
  by_cases c6 : op = 6
  · rw [if_pos c6]; exact h0 _ _
  rw [if_neg c6]
  by_cases c7 : op = 7
  · rw [if_pos c7]; exact h0 _ _
  rw [if_neg c7]
  by_cases c8 : op = 8
  · rw [if_pos c8]; exact h0 _ _
  rw [if_neg c8]
  by_cases c9 : op = 9
  · rw [if_pos c9]; exact h0 _ _
  rw [if_neg c9]
  by_cases c10 : op = 10
  · rw [if_pos c10]; exact h0 _ _
  rw [if_neg c10]
  by_cases c11 : op = 11
  · rw [if_pos c11]; exact h0 _ _
  rw [if_neg c11]
  by_cases c12 : op = 12
  · rw [if_pos c12]; exact h0 _ _
  rw [if_neg c12]
  exact h0 _ _
mutual
theorem Ex.ty_err (ρ : Env) : ∀ e : Ex, (e.ty ρ).2 = 0 ∨ (e.ty ρ).2 = 9 ∨ (e.ty ρ).2 = 11
  | .mk op n s x => by
    have := Ex.tys_err ρ x
    unfold Ex.ty
    split
    · exact this
    · exact tyOp_err ρ op s _ _
theorem Ex.tys_err (ρ : Env) : ∀ l : List Ex, (Ex.tys ρ l).2 = 0 ∨ (Ex.tys ρ l).2 = 9 ∨ (Ex.tys ρ l).2 = 11
  | [] => .inl rfl
  | e :: l => by
    have h1 := Ex.ty_err ρ e
    have h2 := Ex.tys_err ρ l
    unfold Ex.tys
    split
    · exact h1
    · exact h2
end
def wants (op : Int) (i : Nat) (k : Int) : Bool :=
  if op = 12 then true else if op = 13 ∨ op = 18 then k == 3 else if (op = 3 ∨ op = 5) ∧ i = 1 then k == 1 else k == 2
abbrev Flt := Int × Int
def failF (f : Flt) (e at_ : Int) : Flt := if f = (0, 0) then (e, at_) else f
def exprsF (ρ : Env) (op : Int) (at_ : Int) : Nat → List Ex → Int → Flt → Int × Flt
  | _, [], last, f => (last, f)
  | i, e :: l, last, f => exprsF ρ op at_ (i + 1) l (e.ty ρ).1 (if (e.ty ρ).2 ≠ 0 then failF f (e.ty ρ).2 at_ else if wants op i (e.ty ρ).1 then f else failF f 11 at_)
abbrev Mp := List (Nm × Int)
def Mp.get (m : Mp) (s : Nm) : Int := match m with
  | [] => 0
  | x :: r => if x.1 = s then x.2 else Mp.get r s
def Mp.put (m : Mp) (s : Nm) (k : Int) : Mp := match m with
  | [] => [(s, k)]
  | x :: r => if x.1 = s then (x.1, k) :: r else x :: Mp.put r s k
theorem Mp.get_put (m : Mp) (s : Nm) (k : Int) (t : Nm) : (m.put s k).get t = if t = s then k else m.get t := by
  induction m with
  | nil =>
    simp only [Mp.put, Mp.get]
    by_cases h : s = t
    · simp [h]
    · have h' : ¬ t = s := fun e => h e.symm
      simp [h, h']
  | cons x r ih =>
    simp only [Mp.put]
    by_cases h : x.1 = s
    · simp only [h, if_true, Mp.get]
      by_cases h2 : s = t
      · simp [h2]
      · have h2' : ¬ t = s := fun e => h2 e.symm
        simp [h2, h2']
    · simp only [h, if_false, Mp.get, ih]
      by_cases h2 : x.1 = t
      · have h2' : ¬ t = s := fun e => h (h2.trans e)
        simp [h2, h2']
      · simp [h2]
def envOf : List Mp → Env
  | [], _ => 0
  | m :: r, s => if m.get s ≠ 0 then m.get s else envOf r s
theorem envOf_snoc (sc : List Mp) (m : Mp) (s : Nm) : envOf (sc ++ [m]) s = if envOf sc s ≠ 0 then envOf sc s else m.get s := by
  induction sc with
  | nil => simp [envOf]; intro h; exact h.symm
  | cons a r ih =>
    simp only [List.cons_append, envOf, ih]
    by_cases h : a.get s = 0
    · simp [h]
    · simp [h]
mutual
def Sm.chk (pr : Env) (sc : List Mp) (m : Mp) : Sm → Int → Flt → Mp × Int × Flt
  | .mk op s _ e b c _, no, f =>
    let r := exprsF (envOf (sc ++ [m])) op no 0 e 0 f
    let f2 := if op = 12 then (if envOf (sc ++ [m]) s ≠ 0 ∧ envOf (sc ++ [m]) s ≠ r.1 then failF r.2 11 no else r.2) else if op = 15 then (if pr s = 0 then failF r.2 9 no else r.2) else r.2
    let m2 := if op = 12 then m.put s r.1 else m
    let b1 := Sm.chks pr (sc ++ [m2]) [] b (no + 1) f2
    let b2 := Sm.chks pr (sc ++ [m2]) [] c b1.1 b1.2
    (m2, b2.1, b2.2)
def Sm.chks (pr : Env) (sc : List Mp) (m : Mp) : List Sm → Int → Flt → Int × Flt
  | [], no, f => (no, f)
  | x :: l, no, f =>
    let r := x.chk pr sc m no f
    Sm.chks pr sc r.1 l r.2.1 r.2.2
end
def procsF : List (Nm × List Sm) → Mp → Int → Flt → Mp × Int × Flt
  | [], pr, no, f => (pr, no, f)
  | x :: l, pr, no, f =>
    let r := Sm.chks pr.get [] [] x.2 no (if 0 < pr.get x.1 then failF f 9 no else f)
    procsF l (pr.put x.1 (pr.get x.1 + 1)) r.1 r.2
def assertOf (e : Ex) : Sm := .mk 18 [] 0 [e] [] [] false
def oraclesF (pr : Env) : List (Nm × Ex) → Mp → Int → Flt → Int × Flt
  | [], os, no, f => (no, f)
  | x :: l, os, no, f =>
    let r := Sm.chks pr [] [] [assertOf x.2] no (if 1 < os.get x.1 + 1 then failF f 9 no else f)
    oraclesF pr l (os.put x.1 (os.get x.1 + 1)) r.1 r.2
def Pg.chkF (p : Pg) : Flt :=
  let a := procsF p.procs [] 0 (0, 0)
  let b := Sm.chks a.1.get [] [] p.main a.2.1 a.2.2
  let c := Sm.chks a.1.get [] [] p.recover b.1 b.2
  (oraclesF a.1.get p.oracles [] c.1 c.2).2
def Pg.chk (p : Pg) : Flt := if p.ok then p.chkF else (8, 0)
mutual
def Sm.rk (pr : Nm → Bool) (ρ : Env) : Sm → Int → Env × Flt
  | .mk op s _ e b c _, no =>
    if (exprsF ρ op no 0 e 0 (0, 0)).2.1 ≠ 0 then (ρ, (exprsF ρ op no 0 e 0 (0, 0)).2)
    else if op = 12 then
      if ρ s ≠ 0 ∧ ρ s ≠ (exprsF ρ op no 0 e 0 (0, 0)).1 then (ρ, (11, no)) else (fun x => if ρ x ≠ 0 then ρ x else if x = s then (exprsF ρ op no 0 e 0 (0, 0)).1 else 0, (0, 0))
    else if op = 15 ∧ pr s = false then (ρ, (9, no))
    else if (Sm.rks pr ρ b (no + 1)).1 ≠ 0 then (ρ, Sm.rks pr ρ b (no + 1)) else (ρ, Sm.rks pr ρ c (no + 1 + (Sm.flats b).length))
def Sm.rks (pr : Nm → Bool) (ρ : Env) : List Sm → Int → Flt
  | [], _ => (0, 0)
  | x :: l, no => if (x.rk pr ρ no).2.1 ≠ 0 then (x.rk pr ρ no).2 else Sm.rks pr (x.rk pr ρ no).1 l (no + x.flat.length)
end
theorem failF_set {f : Flt} (h : f ≠ (0, 0)) (e a : Int) : failF f e a = f := by unfold failF; rw [if_neg h]
theorem failF_new (e a : Int) : failF (0, 0) e a = (e, a) := by simp [failF]
theorem exprsF_set (ρ : Env) (op at_ : Int) : ∀ (l : List Ex) (i : Nat) (last : Int) (f : Flt), f ≠ (0, 0) → (exprsF ρ op at_ i l last f).2 = f
  | [], _, _, _, _ => rfl
  | e :: l, i, last, f, h => by
    unfold exprsF
    rw [failF_set h, failF_set h]
    simp only [ite_self]
    exact exprsF_set ρ op at_ l (i + 1) _ f h
mutual
theorem Sm.chk_set (pr : Env) : ∀ (x : Sm) (sc : List Mp) (m : Mp) (no : Int) (f : Flt), f ≠ (0, 0) → (x.chk pr sc m no f).2 = (no + x.flat.length, f)
  | .mk op s n e b c g, sc, m, no, f, h => by
    have h1 := exprsF_set (envOf (sc ++ [m])) op no e 0 0 f h
    have h2 : ∀ m2, Sm.chks pr (sc ++ [m2]) [] b (no + 1) f = (no + 1 + (Sm.flats b).length, f) := fun m2 => Sm.chks_set pr b _ _ _ _ h
    have h3 : ∀ m2 (no : Int), Sm.chks pr (sc ++ [m2]) [] c no f = (no + (Sm.flats c).length, f) := fun m2 no => Sm.chks_set pr c _ _ _ _ h
    simp only [Sm.chk, h1, failF_set h, ite_self, h2, h3, Sm.flat, List.length_cons, List.length_append]
    congr 1
    omega
theorem Sm.chks_set (pr : Env) : ∀ (l : List Sm) (sc : List Mp) (m : Mp) (no : Int) (f : Flt), f ≠ (0, 0) → Sm.chks pr sc m l no f = (no + (Sm.flats l).length, f)
  | [], sc, m, no, f, h => by simp [Sm.chks, Sm.flats]
  | x :: l, sc, m, no, f, h => by
    have h1 := Sm.chk_set pr x sc m no f h
    have h2 : ∀ m2 (no : Int), Sm.chks pr sc m2 l no f = (no + (Sm.flats l).length, f) := fun m2 no => Sm.chks_set pr l _ _ _ _ h
    simp only [Sm.chks, h1, h2, Sm.flats, List.length_append]
    congr 1
    omega
end
def FltOK (f : Flt) : Prop := f = (0, 0) ∨ f.1 ≠ 0
theorem failF_ok {f : Flt} (h : FltOK f) {e a : Int} (he : e ≠ 0) : FltOK (failF f e a) := by
  unfold failF
  split
  · exact .inr he
  · exact h
theorem exprsF_ok (ρ : Env) (op at_ : Int) : ∀ (l : List Ex) (i : Nat) (last : Int) (f : Flt), FltOK f → FltOK (exprsF ρ op at_ i l last f).2
  | [], _, _, _, h => h
  | e :: l, i, last, f, h => by
    unfold exprsF
    refine exprsF_ok ρ op at_ l (i + 1) _ _ ?_
    split
    · rename_i he; exact failF_ok h he
    split
    · exact h
    · exact failF_ok h (by omega)
theorem envOf_let (sc : List Mp) (m : Mp) (s : Nm) (k : Int) (h : ¬ (envOf (sc ++ [m]) s ≠ 0 ∧ envOf (sc ++ [m]) s ≠ k)) (t : Nm) :
    envOf (sc ++ [m.put s k]) t = if envOf (sc ++ [m]) t ≠ 0 then envOf (sc ++ [m]) t else if t = s then k else 0 := by
  rw [envOf_snoc, envOf_snoc, Mp.get_put]
  rw [envOf_snoc] at h
  by_cases h1 : envOf sc t = 0
  · by_cases h2 : t = s
    · subst h2
      simp only [h1, ne_eq, not_true_eq_false, if_false, if_true] at h ⊢
      by_cases h3 : m.get t = 0
      · simp [h3]
      · simp only [h3, not_false_eq_true, if_true, true_and, Decidable.not_not] at h ⊢
        exact h.symm
    · simp [h1, h2]
  · simp [h1]
theorem Sm.ok_nil {op : Int} {s : Nm} {n : Int} {e : List Ex} {b c : List Sm} {g : Bool} {d : Nat} (h : (Sm.mk op s n e b c g).ok d = true) (hop : ¬ (op = 13 ∨ op = 14 ∨ op = 16)) : b = [] ∧ c = [] := by
  simp only [Sm.ok, Bool.and_eq_true] at h
  have hs := h.2.1
  unfold shapeOk at hs
  split at hs
  · cases hs
  · simp only [Bool.and_eq_true, Bool.or_eq_true, decide_eq_true_eq] at hs
    obtain ⟨_, _, _, _, _, _, hb, hc, _⟩ := hs
    exact ⟨hb.resolve_left hop, hc.resolve_left (fun h => hop (.inl h))⟩
theorem Sm.ok_in {op : Int} {s : Nm} {n : Int} {e : List Ex} {b c : List Sm} {g : Bool} {d : Nat} (h : (Sm.mk op s n e b c g).ok d = true) : Sm.oks b (d + 1) = true ∧ Sm.oks c (d + 1) = true := by
  simp only [Sm.ok, Bool.and_eq_true] at h
  exact h.2.2.2
theorem envOf_nil (sc : List Mp) : envOf (sc ++ [[]]) = envOf sc := by
  funext t
  rw [envOf_snoc]
  simp only [Mp.get]
  by_cases h : envOf sc t = 0 <;> simp [h]
mutual
theorem Sm.chk_rk (pr : Env) : ∀ (x : Sm) (d : Nat) (sc : List Mp) (m : Mp) (no : Int), x.ok d = true →
    (x.chk pr sc m no (0, 0)).2.1 = no + x.flat.length ∧ (x.chk pr sc m no (0, 0)).2.2 = (x.rk (fun s => pr s != 0) (envOf (sc ++ [m])) no).2 ∧ FltOK (x.rk (fun s => pr s != 0) (envOf (sc ++ [m])) no).2 ∧
      ((x.rk (fun s => pr s != 0) (envOf (sc ++ [m])) no).2.1 = 0 → envOf (sc ++ [(x.chk pr sc m no (0, 0)).1]) = (x.rk (fun s => pr s != 0) (envOf (sc ++ [m])) no).1)
  | .mk op s n e b c g, d, sc, m, no, hok => by
    have hk := exprsF_ok (envOf (sc ++ [m])) op no e 0 0 (0, 0) (.inl rfl)
    obtain ⟨okb, okc⟩ := Sm.ok_in hok
    generalize hr : exprsF (envOf (sc ++ [m])) op no 0 e 0 (0, 0) = r at hk
    obtain ⟨last, f⟩ := r
    simp only at hk
    have go : ∀ (m2 : Mp) (f2 : Flt), f2 ≠ (0, 0) → (Sm.chks pr (sc ++ [m2]) [] c (Sm.chks pr (sc ++ [m2]) [] b (no + 1) f2).1 (Sm.chks pr (sc ++ [m2]) [] b (no + 1) f2).2) = (no + (Sm.flat (.mk op s n e b c g)).length, f2) := fun m2 f2 h2 => by
      rw [Sm.chks_set pr b _ _ _ _ h2]
      simp only
      rw [Sm.chks_set pr c _ _ _ _ h2]
      simp only [Sm.flat, List.length_cons, List.length_append]
      congr 1; omega
    by_cases hf : f = (0, 0)
    · subst hf
      by_cases h12 : op = 12
      · obtain ⟨rfl, rfl⟩ := Sm.ok_nil hok (by omega)
        by_cases hold : envOf (sc ++ [m]) s ≠ 0 ∧ envOf (sc ++ [m]) s ≠ last
        · have hrk : Sm.rk (fun s => pr s != 0) (envOf (sc ++ [m])) (.mk op s n e [] [] g) no = (envOf (sc ++ [m]), (11, no)) := by
            simp only [Sm.rk, hr]; rw [if_neg (by simp), if_pos h12, if_pos hold]
          have hch : Sm.chk pr sc m (.mk op s n e [] [] g) no (0, 0) = (m.put s last, no + (Sm.flat (.mk op s n e [] [] g)).length, (11, no)) := by
            simp only [Sm.chk, hr]
            rw [if_pos h12, if_pos hold, if_pos h12, failF_new, go _ _ (by simp)]
          rw [hrk, hch]
          exact ⟨rfl, rfl, .inr (by simp), fun h => by simp at h⟩
        · have hrk : Sm.rk (fun s => pr s != 0) (envOf (sc ++ [m])) (.mk op s n e [] [] g) no = (fun x => if envOf (sc ++ [m]) x ≠ 0 then envOf (sc ++ [m]) x else if x = s then last else 0, (0, 0)) := by
            simp only [Sm.rk, hr]; rw [if_neg (by simp), if_pos h12, if_neg hold]
          have hch : Sm.chk pr sc m (.mk op s n e [] [] g) no (0, 0) = (m.put s last, no + 1, (0, 0)) := by
            simp only [Sm.chk, hr]
            rw [if_pos h12, if_neg hold, if_pos h12]; rfl
          rw [hrk, hch]
          refine ⟨by simp [Sm.flat, Sm.flats], rfl, .inl rfl, fun _ => ?_⟩
          funext t
          exact envOf_let sc m s last hold t
      · by_cases h15 : op = 15 ∧ pr s = 0
        · have hrk : Sm.rk (fun s => pr s != 0) (envOf (sc ++ [m])) (.mk op s n e b c g) no = (envOf (sc ++ [m]), (9, no)) := by
            simp only [Sm.rk, hr]; rw [if_neg (by simp), if_neg h12, if_pos ⟨h15.1, by simp [h15.2]⟩]
          have hch : Sm.chk pr sc m (.mk op s n e b c g) no (0, 0) = (m, no + (Sm.flat (.mk op s n e b c g)).length, (9, no)) := by
            simp only [Sm.chk, hr]
            rw [if_neg h12, if_pos h15.1, if_pos h15.2, if_neg h12, failF_new, go _ _ (by simp)]
          rw [hrk, hch]
          exact ⟨rfl, rfl, .inr (by simp), fun h => by simp at h⟩
        · have hf2 : (if op = 12 then (if envOf (sc ++ [m]) s ≠ 0 ∧ envOf (sc ++ [m]) s ≠ last then failF (0, 0) 11 no else (0, 0)) else if op = 15 then (if pr s = 0 then failF (0, 0) 9 no else (0, 0)) else (0, 0) : Flt) = (0, 0) := by
            rw [if_neg h12]
            by_cases h : op = 15
            · rw [if_pos h, if_neg (fun e => h15 ⟨h, e⟩)]
            · rw [if_neg h]
          obtain ⟨hb1, hb2⟩ := Sm.chks_rk pr b (d + 1) (sc ++ [m]) [] (no + 1) okb
          obtain ⟨hc1, hc2⟩ := Sm.chks_rk pr c (d + 1) (sc ++ [m]) [] (no + 1 + (Sm.flats b).length) okc
          rw [envOf_nil] at hb1 hb2 hc1 hc2
          have hn15 : ¬ (op = 15 ∧ (pr s != 0) = false) := fun h => h15 ⟨h.1, by simpa using h.2⟩
          by_cases hbf : Sm.rks (fun s => pr s != 0) (envOf (sc ++ [m])) b (no + 1) = (0, 0)
          · have hrk : Sm.rk (fun s => pr s != 0) (envOf (sc ++ [m])) (.mk op s n e b c g) no = (envOf (sc ++ [m]), Sm.rks (fun s => pr s != 0) (envOf (sc ++ [m])) c (no + 1 + (Sm.flats b).length)) := by
              simp only [Sm.rk, hr]; rw [if_neg (by simp), if_neg h12, if_neg hn15, if_neg (by rw [hbf]; simp)]
            have hch : Sm.chk pr sc m (.mk op s n e b c g) no (0, 0) = (m, no + 1 + (Sm.flats b).length + (Sm.flats c).length, Sm.rks (fun s => pr s != 0) (envOf (sc ++ [m])) c (no + 1 + (Sm.flats b).length)) := by
              simp only [Sm.chk, hr]
              rw [hf2, if_neg h12, hb1, hbf]
              simp only
              rw [hc1]
            rw [hrk, hch]
            refine ⟨?_, rfl, hc2, fun _ => rfl⟩
            simp only [Sm.flat, List.length_cons, List.length_append]; omega
          · have hbf1 := hb2.resolve_left hbf
            have hrk : Sm.rk (fun s => pr s != 0) (envOf (sc ++ [m])) (.mk op s n e b c g) no = (envOf (sc ++ [m]), Sm.rks (fun s => pr s != 0) (envOf (sc ++ [m])) b (no + 1)) := by
              simp only [Sm.rk, hr]; rw [if_neg (by simp), if_neg h12, if_neg hn15, if_pos hbf1]
            have hch : Sm.chk pr sc m (.mk op s n e b c g) no (0, 0) = (m, no + 1 + (Sm.flats b).length + (Sm.flats c).length, Sm.rks (fun s => pr s != 0) (envOf (sc ++ [m])) b (no + 1)) := by
              simp only [Sm.chk, hr]
              rw [hf2, if_neg h12, hb1]
              simp only
              rw [Sm.chks_set pr c _ _ _ _ hbf]
            rw [hrk, hch]
            refine ⟨?_, rfl, hb2, fun h => absurd h hbf1⟩
            simp only [Sm.flat, List.length_cons, List.length_append]; omega
    · have hf1 : f.1 ≠ 0 := hk.resolve_left hf
      have hrk : Sm.rk (fun s => pr s != 0) (envOf (sc ++ [m])) (.mk op s n e b c g) no = (envOf (sc ++ [m]), f) := by
        simp only [Sm.rk, hr]; rw [if_pos hf1]
      have hch : (Sm.chk pr sc m (.mk op s n e b c g) no (0, 0)).2 = (no + (Sm.flat (.mk op s n e b c g)).length, f) := by
        simp only [Sm.chk, hr, failF_set hf, ite_self]
        rw [go _ _ hf]
      rw [hrk, hch]
      exact ⟨rfl, rfl, .inr hf1, fun h => absurd h hf1⟩
theorem Sm.chks_rk (pr : Env) : ∀ (l : List Sm) (d : Nat) (sc : List Mp) (m : Mp) (no : Int), Sm.oks l d = true → Sm.chks pr sc m l no (0, 0) = (no + (Sm.flats l).length, Sm.rks (fun s => pr s != 0) (envOf (sc ++ [m])) l no) ∧ FltOK (Sm.rks (fun s => pr s != 0) (envOf (sc ++ [m])) l no)
  | [], d, sc, m, no, _ => by simp [Sm.chks, Sm.rks, Sm.flats, FltOK]
  | x :: l, d, sc, m, no, hok => by
    simp only [Sm.oks, Bool.and_eq_true] at hok
    obtain ⟨h1, h2, h3, h4⟩ := Sm.chk_rk pr x d sc m no hok.1
    have hrec := fun m' no' => Sm.chks_rk pr l d sc m' no' hok.2
    generalize hk : Sm.rk (fun s => pr s != 0) (envOf (sc ++ [m])) x no = k at h2 h3 h4
    generalize hc : Sm.chk pr sc m x no (0, 0) = c at h1 h2 h4
    obtain ⟨ρ', f⟩ := k
    obtain ⟨m', no', f'⟩ := c
    simp only at h1 h2 h3 h4
    subst h1; subst h2
    simp only [Sm.chks, Sm.rks, hk, hc, Sm.flats, List.length_append]
    by_cases hf : f' = (0, 0)
    · subst hf
      have h5 := h4 rfl
      obtain ⟨h6, h7⟩ := hrec m' (no + x.flat.length)
      rw [if_neg (by simp), ← h5]
      refine ⟨?_, h7⟩
      rw [h6]; congr 1; omega
    · have hf1 : f'.1 ≠ 0 := h3.resolve_left hf
      rw [if_pos hf1, Sm.chks_set pr l _ _ _ _ hf]
      refine ⟨?_, h3⟩
      congr 1; omega
end
end Go.AM.Spec
namespace Go.AM.Spec
set_option linter.unusedVariables false
set_option linter.unusedSimpArgs false
set_option maxHeartbeats 1000000
set_option maxRecDepth 10000
def env0 : Env := fun _ => 0
theorem envOf_none : envOf ([] ++ [[]]) = env0 := by funext t; rfl
def hasN (l : List Nm) (s : Nm) : Bool := l.any fun x => decide (x = s)
def procsR : List (Nm × List Sm) → List Nm → Int → Flt × List Nm × Int
  | [], names, no => ((0, 0), names, no)
  | x :: l, names, no => if hasN names x.1 = true then ((9, no), names, no) else if (Sm.rks (hasN names) env0 x.2 no).1 ≠ 0 then (Sm.rks (hasN names) env0 x.2 no, names, no) else procsR l (names ++ [x.1]) (no + (Sm.flats x.2).length)
def oraclesR : List (Nm × Ex) → List Nm → Int → Flt
  | [], _, _ => (0, 0)
  | x :: l, seen, no => if hasN seen x.1 = true then (9, no) else if (x.2.ty env0).2 ≠ 0 then ((x.2.ty env0).2, no) else if (x.2.ty env0).1 ≠ 3 then (11, no) else oraclesR l (seen ++ [x.1]) (no + 1)
def Pg.rkF (p : Pg) : Flt :=
  if (procsR p.procs [] 0).1.1 ≠ 0 then (procsR p.procs [] 0).1
  else if (Sm.rks (hasN (procsR p.procs [] 0).2.1) env0 p.main (procsR p.procs [] 0).2.2).1 ≠ 0 then Sm.rks (hasN (procsR p.procs [] 0).2.1) env0 p.main (procsR p.procs [] 0).2.2
  else if (Sm.rks (hasN (procsR p.procs [] 0).2.1) env0 p.recover ((procsR p.procs [] 0).2.2 + (Sm.flats p.main).length)).1 ≠ 0 then Sm.rks (hasN (procsR p.procs [] 0).2.1) env0 p.recover ((procsR p.procs [] 0).2.2 + (Sm.flats p.main).length)
  else oraclesR p.oracles [] ((procsR p.procs [] 0).2.2 + (Sm.flats p.main).length + (Sm.flats p.recover).length)
def Tells (m : Mp) (names : List Nm) : Prop := ∀ s, 0 ≤ m.get s ∧ (m.get s != 0) = hasN names s
theorem Tells.nil : Tells [] [] := fun s => ⟨Int.le_refl _, rfl⟩
theorem Tells.put {m : Mp} {names : List Nm} (h : Tells m names) (s : Nm) : Tells (m.put s (m.get s + 1)) (names ++ [s]) := fun t => by
  obtain ⟨h1, h2⟩ := h t
  obtain ⟨h3, _⟩ := h s
  rw [Mp.get_put]
  by_cases e : t = s
  · subst e
    refine ⟨by simp; omega, ?_⟩
    simp [hasN]; omega
  · rw [if_neg e]
    refine ⟨h1, ?_⟩
    rw [h2]
    have e' : ¬ s = t := fun h => e h.symm
    simp [hasN, e, e']
theorem Tells.eq {m : Mp} {names : List Nm} (h : Tells m names) : (fun s => m.get s != 0) = hasN names := funext fun s => (h s).2
theorem Tells.pos {m : Mp} {names : List Nm} (h : Tells m names) (s : Nm) : 0 < m.get s ↔ hasN names s = true := by
  obtain ⟨h1, h2⟩ := h s
  rw [← h2]; simp; omega
theorem procsF_set : ∀ (l : List (Nm × List Sm)) (pr : Mp) (no : Int) (f : Flt), f ≠ (0, 0) → (procsF l pr no f).2.2 = f
  | [], _, _, _, _ => rfl
  | x :: l, pr, no, f, h => by
    simp only [procsF, failF_set h, ite_self]
    rw [Sm.chks_set _ x.2 [] [] no f h]
    exact procsF_set l _ _ f h
theorem procsF_rk : ∀ (l : List (Nm × List Sm)) (pr : Mp) (names : List Nm) (no : Int), Tells pr names → (∀ x ∈ l, Sm.oks x.2 1 = true) →
    FltOK (procsR l names no).1 ∧ (procsF l pr no (0, 0)).2.2 = (procsR l names no).1 ∧ ((procsR l names no).1 = (0, 0) → Tells (procsF l pr no (0, 0)).1 (procsR l names no).2.1 ∧ (procsF l pr no (0, 0)).2.1 = (procsR l names no).2.2)
  | [], pr, names, no, ht, _ => ⟨.inl rfl, rfl, fun _ => ⟨ht, rfl⟩⟩
  | x :: l, pr, names, no, ht, hok => by
    by_cases hh : hasN names x.1 = true
    · have hpos := (ht.pos x.1).2 hh
      have e1 : procsR (x :: l) names no = ((9, no), names, no) := by simp only [procsR]; rw [if_pos hh]
      have e2 : (procsF (x :: l) pr no (0, 0)).2.2 = (9, no) := by
        simp only [procsF]
        rw [if_pos hpos, failF_new, Sm.chks_set _ x.2 [] [] no _ (by simp)]
        exact procsF_set l _ _ _ (by simp)
      rw [e1, e2]
      exact ⟨.inr (by simp), rfl, fun h => by simp at h⟩
    · have hpos : ¬ 0 < pr.get x.1 := fun h => hh ((ht.pos x.1).1 h)
      obtain ⟨h1, h2⟩ := Sm.chks_rk pr.get x.2 1 [] [] no (hok x (by simp))
      rw [envOf_none, ht.eq] at h1 h2
      by_cases hf : Sm.rks (hasN names) env0 x.2 no = (0, 0)
      · have e1 : procsR (x :: l) names no = procsR l (names ++ [x.1]) (no + (Sm.flats x.2).length) := by
          simp only [procsR]; rw [if_neg hh, if_neg (by rw [hf]; simp)]
        have e2 : procsF (x :: l) pr no (0, 0) = procsF l (pr.put x.1 (pr.get x.1 + 1)) (no + (Sm.flats x.2).length) (0, 0) := by
          simp only [procsF]; rw [if_neg hpos, h1, hf]
        rw [e1, e2]
        exact procsF_rk l _ _ _ (ht.put x.1) fun y hy => hok y (by simp [hy])
      · have hf1 := h2.resolve_left hf
        have e1 : procsR (x :: l) names no = (Sm.rks (hasN names) env0 x.2 no, names, no) := by
          simp only [procsR]; rw [if_neg hh, if_pos hf1]
        have e2 : (procsF (x :: l) pr no (0, 0)).2.2 = Sm.rks (hasN names) env0 x.2 no := by
          simp only [procsF]; rw [if_neg hpos, h1]
          exact procsF_set l _ _ _ hf
        rw [e1, e2]
        exact ⟨h2, rfl, fun h => absurd h hf⟩
theorem assert_chk (pr : Env) (e : Ex) (no : Int) (f : Flt) : Sm.chks pr [] [] [assertOf e] no f = (no + 1, if (e.ty env0).2 ≠ 0 then failF f (e.ty env0).2 no else if (e.ty env0).1 = 3 then f else failF f 11 no) := by
  have hw : ∀ k : Int, wants 18 0 k = (k == 3) := fun k => by simp [wants]
  simp only [assertOf, Sm.chks, Sm.chk, exprsF, envOf_none, hw]
  rw [if_neg (by decide : ¬ (18 : Int) = 12), if_neg (by decide : ¬ (18 : Int) = 15)]
  congr 1
  by_cases h : (e.ty env0).1 = 3 <;> simp [h]
theorem oraclesF_set (pr : Env) : ∀ (l : List (Nm × Ex)) (os : Mp) (no : Int) (f : Flt), f ≠ (0, 0) → (oraclesF pr l os no f).2 = f
  | [], _, _, _, _ => rfl
  | x :: l, os, no, f, h => by
    simp only [oraclesF, failF_set h, ite_self, assert_chk]
    exact oraclesF_set pr l _ _ f h
theorem oraclesF_rk (pr : Env) : ∀ (l : List (Nm × Ex)) (os : Mp) (seen : List Nm) (no : Int), Tells os seen → (oraclesF pr l os no (0, 0)).2 = oraclesR l seen no
  | [], os, seen, no, _ => rfl
  | x :: l, os, seen, no, ht => by
    simp only [oraclesF, assert_chk]
    by_cases hh : hasN seen x.1 = true
    · have hpos : 1 < os.get x.1 + 1 := by have := (ht.pos x.1).2 hh; omega
      have e1 : oraclesR (x :: l) seen no = (9, no) := by simp only [oraclesR]; rw [if_pos hh]
      rw [e1, if_pos hpos, failF_new]
      simp only [failF_set (show ((9, no) : Flt) ≠ (0, 0) by simp), ite_self]
      exact oraclesF_set pr l _ _ _ (by simp)
    · have hpos : ¬ 1 < os.get x.1 + 1 := fun h => hh ((ht.pos x.1).1 (by omega))
      rw [if_neg hpos]
      simp only [oraclesR]
      rw [if_neg hh]
      by_cases he : (x.2.ty env0).2 ≠ 0
      · rw [if_pos he, if_pos he, failF_new]
        exact oraclesF_set pr l _ _ _ (by simp; intro h; exact absurd h he)
      · rw [if_neg he, if_neg he]
        by_cases h3 : (x.2.ty env0).1 = 3
        · rw [if_pos h3, if_neg (by simp [h3])]
          exact oraclesF_rk pr l _ _ _ (ht.put x.1)
        · rw [if_neg h3, if_pos h3, failF_new]
          exact oraclesF_set pr l _ _ _ (by simp)
theorem Pg.chk_rk {p : Pg} (hok : p.ok = true) : p.chkF = p.rkF := by
  unfold Pg.ok at hok
  simp only [Bool.and_eq_true] at hok
  obtain ⟨_, _, _, hpr, _, hm, hr⟩ := hok
  obtain ⟨h1, h2, h3⟩ := procsF_rk p.procs [] [] 0 .nil fun x hx => by
    have := List.all_eq_true.1 hpr x hx
    simp only [Bool.and_eq_true] at this
    exact this.2
  unfold Pg.chkF Pg.rkF
  generalize procsR p.procs [] 0 = r at h1 h2 h3
  generalize procsF p.procs [] 0 (0, 0) = a at h2 h3
  obtain ⟨f, names, no⟩ := r
  obtain ⟨pr, no', f'⟩ := a
  simp only at h1 h2 h3
  subst h2
  simp only
  by_cases hf : f' = (0, 0)
  · subst hf
    obtain ⟨ht, rfl⟩ := h3 rfl
    rw [if_neg (by simp)]
    obtain ⟨m1, m2⟩ := Sm.chks_rk pr.get p.main 1 [] [] no' hm
    rw [envOf_none, ht.eq] at m1 m2
    rw [m1]
    simp only
    by_cases hmf : Sm.rks (hasN names) env0 p.main no' = (0, 0)
    · rw [hmf, if_neg (by simp)]
      obtain ⟨r1, r2⟩ := Sm.chks_rk pr.get p.recover 1 [] [] (no' + (Sm.flats p.main).length) hr
      rw [envOf_none, ht.eq] at r1 r2
      rw [r1]
      simp only
      by_cases hrf : Sm.rks (hasN names) env0 p.recover (no' + (Sm.flats p.main).length) = (0, 0)
      · rw [hrf, if_neg (by simp)]
        exact oraclesF_rk pr.get p.oracles [] [] _ .nil
      · have hrf1 := r2.resolve_left hrf
        rw [if_pos hrf1]
        exact oraclesF_set _ _ _ _ _ hrf
    · have hmf1 := m2.resolve_left hmf
      rw [if_pos hmf1, Sm.chks_set _ p.recover [] [] _ _ hmf]
      exact oraclesF_set _ _ _ _ _ hmf
  · have hf1 := h1.resolve_left hf
    rw [if_pos hf1, Sm.chks_set _ p.main [] [] _ _ hf]
    simp only
    rw [Sm.chks_set _ p.recover [] [] _ _ hf]
    exact oraclesF_set _ _ _ _ _ hf
end Go.AM.Spec
namespace Go.AM.Spec
set_option linter.unusedVariables false
set_option linter.unusedSimpArgs false
set_option maxHeartbeats 1000000
set_option maxRecDepth 10000
def Num (f : Flt) : Prop := f.1 = 0 ∨ f.1 = 9 ∨ f.1 = 11
theorem failF_num {f : Flt} (h : Num f) {e a : Int} (he : e = 9 ∨ e = 11) : Num (failF f e a) := by
  unfold failF
  split
  · exact .inr he
  · exact h
theorem exprsF_num (ρ : Env) (op a : Int) : ∀ (l : List Ex) (i : Nat) (last : Int) (f : Flt), Num f → Num (exprsF ρ op a i l last f).2
  | [], _, _, _, h => h
  | e :: l, i, last, f, h => by
    unfold exprsF
    refine exprsF_num ρ op a l (i + 1) _ _ ?_
    split
    · rename_i he; exact failF_num h ((Ex.ty_err ρ e).resolve_left he)
    split
    · exact h
    · exact failF_num h (.inr rfl)
mutual
theorem Sm.rk_num (pr : Nm → Bool) : ∀ (x : Sm) (ρ : Env) (no : Int), Num (x.rk pr ρ no).2 ∧ FltOK (x.rk pr ρ no).2
  | .mk op s n e b c g, ρ, no => by
    have h1 := exprsF_num ρ op no e 0 0 (0, 0) (.inl rfl)
    have h1' := exprsF_ok ρ op no e 0 0 (0, 0) (.inl rfl)
    have h2 := Sm.rks_num pr b ρ (no + 1)
    have h3 := Sm.rks_num pr c ρ (no + 1 + (Sm.flats b).length)
    unfold Sm.rk
    split
    · exact ⟨h1, h1'⟩
    split
    · split
      · exact ⟨.inr (.inr rfl), .inr (by simp)⟩
      · exact ⟨.inl rfl, .inl rfl⟩
    split
    · exact ⟨.inr (.inl rfl), .inr (by simp)⟩
    split
    · exact h2
    · exact h3
theorem Sm.rks_num (pr : Nm → Bool) : ∀ (l : List Sm) (ρ : Env) (no : Int), Num (Sm.rks pr ρ l no) ∧ FltOK (Sm.rks pr ρ l no)
  | [], _, _ => ⟨.inl rfl, .inl rfl⟩
  | x :: l, ρ, no => by
    have h1 := Sm.rk_num pr x ρ no
    have h2 := fun ρ no => Sm.rks_num pr l ρ no
    unfold Sm.rks
    split
    · exact h1
    · exact h2 _ _
end
theorem oraclesR_num : ∀ (l : List (Nm × Ex)) (seen : List Nm) (no : Int), Num (oraclesR l seen no) ∧ FltOK (oraclesR l seen no)
  | [], _, _ => ⟨.inl rfl, .inl rfl⟩
  | x :: l, seen, no => by
    unfold oraclesR
    split
    · exact ⟨.inr (.inl rfl), .inr (by simp)⟩
    split
    · rename_i h; exact ⟨.inr ((Ex.ty_err env0 x.2).resolve_left h), .inr h⟩
    split
    · exact ⟨.inr (.inr rfl), .inr (by simp)⟩
    · exact oraclesR_num l _ _
theorem procsR_num : ∀ (l : List (Nm × List Sm)) (names : List Nm) (no : Int), Num (procsR l names no).1 ∧ FltOK (procsR l names no).1
  | [], _, _ => ⟨.inl rfl, .inl rfl⟩
  | x :: l, names, no => by
    unfold procsR
    split
    · exact ⟨.inr (.inl rfl), .inr (by simp)⟩
    split
    · exact Sm.rks_num _ _ _ _
    · exact procsR_num l _ _
def Pg.typed (p : Pg) : Flt := if p.ok then p.rkF else (8, 0)
def restR (names : List Nm) (p : Pg) (no : Int) : Flt :=
  if (Sm.rks (hasN names) env0 p.main no).1 ≠ 0 then Sm.rks (hasN names) env0 p.main no
  else if (Sm.rks (hasN names) env0 p.recover (no + (Sm.flats p.main).length)).1 ≠ 0 then Sm.rks (hasN names) env0 p.recover (no + (Sm.flats p.main).length)
  else oraclesR p.oracles [] (no + (Sm.flats p.main).length + (Sm.flats p.recover).length)
theorem rkF_rest (p : Pg) : p.rkF = if (procsR p.procs [] 0).1.1 ≠ 0 then (procsR p.procs [] 0).1 else restR (procsR p.procs [] 0).2.1 p (procsR p.procs [] 0).2.2 := rfl
theorem rkF_num (p : Pg) : Num p.rkF ∧ FltOK p.rkF := by
  rw [rkF_rest]
  split
  · exact procsR_num _ _ _
  · unfold restR
    split
    · exact Sm.rks_num _ _ _ _
    split
    · exact Sm.rks_num _ _ _ _
    · exact oraclesR_num _ _ _
mutual
def Sm.calls : Sm → Bool
  | .mk op _ _ _ b c _ => decide (op = 15) || (Sm.callsL b || Sm.callsL c)
def Sm.callsL : List Sm → Bool
  | [] => false
  | x :: l => x.calls || Sm.callsL l
end
end Go.AM.Spec
namespace Go.AM.Spec
set_option linter.unusedVariables false
set_option linter.unusedSimpArgs false
set_option maxHeartbeats 4000000
set_option maxRecDepth 10000
def mks (m : Mp) : List (List V) := m.map fun x => [V.str x.1]
def mvs (m : Mp) : List V := m.map fun x => V.int .i64 x.2
def mpc (m : Mp) : List V := [.mp false [.str] (mks m) (mvs m)]
theorem keyWell_str (s : Nm) : keyWell [.str] [.str s] = true := by simp [keyWell, eqCells]
theorem look_mp (s : Nm) : ∀ m : Mp, lookOf false (.int .i64 0) [.str] [.str s] (mks m) (mvs m) = some (.int .i64 (m.get s))
  | [] => rfl
  | x :: m => by
    have ih := look_mp s m
    unfold lookOf keyAt at ih ⊢
    have e : mks (x :: m) = [V.str x.1] :: mks m := rfl
    have e2 : mvs (x :: m) = V.int .i64 x.2 :: mvs m := rfl
    rw [e, e2, List.findIdx?_cons]
    by_cases h : x.1 = s
    · simp [eqCells, h, Mp.get]
    · have h' : ¬ s = x.1 := fun e => h e.symm
      simp only [Mp.get, h, if_false]
      have hd : (decide (eqCells [.str] [V.str s] [V.str x.1] = some true)) = false := by simp [eqCells, h']
      rw [hd, if_neg (by simp)]
      cases hf : (mks m).findIdx? fun k' => decide (eqCells [.str] [V.str s] k' = some true) with
      | none => rw [hf] at ih; simpa using ih
      | some j => rw [hf] at ih; simpa using ih
theorem put_mp (s : Nm) (k : Int) : ∀ m : Mp, mapSt [.str] [.str s] (.int .i64 k) (mks m) (mvs m) = (mks (m.put s k), mvs (m.put s k))
  | [] => rfl
  | x :: m => by
    have ih := put_mp s k m
    unfold mapSt keyAt at ih ⊢
    have e : mks (x :: m) = [V.str x.1] :: mks m := rfl
    have e2 : mvs (x :: m) = V.int .i64 x.2 :: mvs m := rfl
    rw [e, e2, List.findIdx?_cons]
    by_cases h : x.1 = s
    · simp [eqCells, h, Mp.put, mks, mvs]
    · have h' : ¬ s = x.1 := fun e => h e.symm
      simp only [Mp.put, h, if_false]
      have hd : (decide (eqCells [.str] [V.str s] [V.str x.1] = some true)) = false := by simp [eqCells, h']
      rw [hd, if_neg (by simp)]
      cases hf : (mks m).findIdx? fun k' => decide (eqCells [.str] [V.str s] k' = some true) with
      | none => rw [hf] at ih; simp at ih ⊢; simp [mks, mvs] at ih ⊢; exact ih
      | some j => rw [hf] at ih; simp at ih ⊢; simp [mks, mvs] at ih ⊢; exact ih
theorem is_eq (ok : Bool) (k : Int) (H : Heap) : eval tbl noExt n_types_is [.bool ok, .int .i64 k] H = some (.tup [.int .i64 (tyIs ok k).1, .int .i64 (tyIs ok k).2], H) := by
  rw [eval_M rfl rfl t_types_is rfl]
  cases ok <;> simp [c_types_is, tyIs]
theorem wants_eq (op : Int) (i : Nat) (k : Int) (H : Heap) : eval tbl noExt n_types_wants [.int .i64 op, .int .i64 i, .int .i64 k] H = some (.bool (wants op i k), H) := by
  rw [eval_M rfl rfl t_types_wants rfl]
  by_cases h1 : op = 12
  · simp [c_types_wants, wants, h1]
  by_cases h2 : op = 13
  · simp [c_types_wants, wants, h1, h2]; rfl
  by_cases h3 : op = 18
  · simp [c_types_wants, wants, h1, h2, h3]; rfl
  have hi : ((i : Int) = 1) ↔ i = 1 := by omega
  by_cases h4 : op = 3
  · by_cases h5 : i = 1
    · simp [c_types_wants, wants, h1, h2, h3, h4, h5]; rfl
    · have h5' : ¬ (i : Int) = 1 := by omega
      simp [c_types_wants, wants, h1, h2, h3, h4, h5, h5']; rfl
  by_cases h6 : op = 5
  · by_cases h5 : i = 1
    · simp [c_types_wants, wants, h1, h2, h3, h4, h5, h6]; rfl
    · have h5' : ¬ (i : Int) = 1 := by omega
      simp [c_types_wants, wants, h1, h2, h3, h4, h5, h5', h6]; rfl
  simp [c_types_wants, wants, h1, h2, h3, h4, h6]; rfl
def NameOK (H : Heap) (f : Nat) (first cap : List V) (ρ : Env) : Prop := f < yBase ∧ ∀ T (s : Nm), eval tbl noExt f (first ++ [.str s] ++ cap) (H ++ T) = some (.int .i64 (ρ s), H ++ T)
mutual
def Ex.thin : Ex → Bool
  | .mk _ _ _ x => decide (x.length ≤ 2) && Ex.thins x
def Ex.thins : List Ex → Bool
  | [] => true
  | e :: l => e.thin && Ex.thins l
end
theorem parts_two {op : Int} {k : Nat} (h : parts op = some k) : k ≤ 2 := by
  unfold parts at h
  repeat' split at h
  all_goals simp at h
  all_goals omega
mutual
theorem Ex.ok_thin : ∀ (e : Ex) (d : Nat), e.ok d = true → e.thin = true
  | .mk op n s x, d, h => by
    unfold Ex.ok at h
    unfold Ex.thin
    cases hp : parts op with
    | none => rw [hp] at h; simp at h
    | some k =>
      rw [hp] at h
      simp only [Bool.and_eq_true, decide_eq_true_eq] at h
      have := parts_two hp
      simp only [Bool.and_eq_true, decide_eq_true_eq]
      exact ⟨by omega, Ex.oks_thin x (d - 1) h.2⟩
theorem Ex.oks_thin : ∀ (l : List Ex) (d : Nat), Ex.oks l d = true → Ex.thins l = true
  | [], _, _ => rfl
  | e :: l, d, h => by
    simp only [Ex.oks, Bool.and_eq_true] at h
    simp only [Ex.thins, Bool.and_eq_true]
    exact ⟨Ex.ok_thin e d h.1, Ex.oks_thin l d h.2⟩
end
theorem Ex.thins_mem {l : List Ex} (h : Ex.thins l = true) {e : Ex} (he : e ∈ l) : e.thin = true := by
  induction l with
  | nil => simp at he
  | cons y l ih =>
    simp only [Ex.thins, Bool.and_eq_true] at h
    rcases List.mem_cons.1 he with rfl | he
    · exact h.1
    · exact ih h.2 he
def kpad (l : List Int) : List V := [.int .i64 (l.getD 0 0), .int .i64 (l.getD 1 0)]
def OfOK (H : Heap) (fv : V) (ρ : Env) (e : Ex) : Prop := ∀ T, eval tbl noExt n_types_of [.agg e.cells, fv] (H ++ T) = some (.tup [.int .i64 (e.ty ρ).1, .int .i64 (e.ty ρ).2], H ++ T)
theorem of_loop (H : Heap) (ρ : Env) (nf : Nat) (fs cs : List V) (x : List Ex) (E : List V) (hl : x.length ≤ 2) (hx : ∀ e ∈ x, OfOK H (.fn (.func nf) fs cs) ρ e) (k : List Item) (R : Option (V × Heap))
    (hret : ∀ φ' T, (Ex.tys ρ x).2 ≠ 0 → Fr.get φ' 4 = .int .i64 0 → Fr.get φ' 5 = .int .i64 (Ex.tys ρ x).2 → retK k φ' (H ++ T) = R)
    (hexit : ∀ φ' T, (Ex.tys ρ x).2 = 0 → Fr.get φ' 1 = .fn (.func nf) fs cs → Fr.get φ' 2 = .ptr H.length 0 → Fr.get φ' 6 = .ms (H.length + 1) 0 2 2 → M (eval tbl noExt) k φ' (H ++ (some E :: some (kpad (Ex.tys ρ x).1) :: T)) = R) :
    ∀ (l : List Ex) (i : Nat) (D : List Int) (T : Heap) (φ : Fr), x.drop i = l → D.length = i → (Ex.tys ρ x).2 = (Ex.tys ρ l).2 → ((Ex.tys ρ l).2 = 0 → (Ex.tys ρ x).1 = D ++ (Ex.tys ρ l).1) →
      Fr.get φ 1 = .fn (.func nf) fs cs → Fr.get φ 2 = .ptr H.length 0 → Fr.get φ 6 = .ms (H.length + 1) 0 2 2 → Fr.get φ 16 = .sl 4 (Ex.rows x) → Fr.get φ 17 = .int .i64 x.length → Fr.get φ 18 = .int .i64 i →
      M (eval tbl noExt) (.code l_types_of_0 :: .blk 0 :: k) φ (H ++ (some E :: some (kpad D) :: T)) = R := by
  intro l
  induction l with
  | nil =>
    intro i D T φ hd hD e1 e2 h1 h2 h6 h16 h17 h18
    have hi : x.length ≤ i := by rw [← Nat.sub_eq_zero_iff_le, ← List.length_drop, hd]; rfl
    have hlt : ¬ ((i : Int) < x.length) := by omega
    have e2 := e2 rfl
    rw [show (Ex.tys ρ []).1 = [] from rfl, List.append_nil] at e2
    rw [l_types_of_0, M_loop, ← l_types_of_0]
    simp [b_types_of_0, h1, h2, h6, h16, h17, h18, hlt]
    subst e2
    refine hexit _ _ ?_ ?_ ?_ ?_
    · rw [e1]; rfl
    · simp [h1]
    · simp [h2]
    · simp [h6]
  | cons e l ih =>
    intro i D T φ hd hD e1 e2 h1 h2 h6 h16 h17 h18
    have hi : i < x.length := by
      have : (x.drop i).length = l.length + 1 := by rw [hd]; rfl
      rw [List.length_drop] at this; omega
    have hlt : (i : Int) < x.length := by omega
    have hxe : x[i]? = some e := by rw [← List.head?_drop, hd]; rfl
    have hmem : e ∈ x := List.mem_of_getElem? hxe
    have hd1 : x.drop (i + 1) = l := by rw [← List.tail_drop, hd]; rfl
    have hr : (Ex.rows x)[i]? = some e.cells := by rw [Ex.rows_eq, List.getElem?_map, hxe]; rfl
    have hrl : (Ex.rows x).length = x.length := by rw [Ex.rows_eq]; simp
    have hw : IntKind.i64.wrap ((i : Int) + 1) = ((i + 1 : Nat) : Int) := by rw [w64 (by omega) (by omega)]; rfl
    obtain ⟨sl, ss⟩ := Ex.strips e
    have hc := hx e hmem (some E :: some (kpad D) :: (T ++ [some e.cells]))
    have hr2 : ∀ h, (Ex.rows x)[i]'h = e.cells := fun h => by rw [List.getElem?_eq_getElem h] at hr; exact Option.some.inj hr
    simp only [allStrip] at ss
    have st4 : List.take 4 e.cells = e.cells := List.take_of_length_le (by omega)
    have hset : ∀ v : Int, (kpad D).set i (.int .i64 v) = kpad (D ++ [v]) := by
      intro v
      subst hD
      match D, hi with
      | [], _ => rfl
      | [a], _ => rfl
      | a :: b :: r, h => simp at h; omega
    have ge : ∀ (A : Heap) (j : Nat), (H ++ A)[H.length + j]? = A[j]? := fun A j => at_hp rfl A j
    have gs : ∀ (A : Heap) (j : Nat) v, (H ++ A).set (H.length + j) v = H ++ A.set j v := fun A j v => set_hp rfl A j v
    have q1 : (Ex.tys ρ (e :: l)) = if (e.ty ρ).2 ≠ 0 then ([], (e.ty ρ).2) else ((e.ty ρ).1 :: (Ex.tys ρ l).1, (Ex.tys ρ l).2) := by rw [Ex.tys]
    obtain ⟨op, m, s, y⟩ := e
    generalize (Ex.mk op m s y).ty ρ = z at q1 hc
    obtain ⟨z1, z2⟩ := z
    simp only [Ex.cells] at hr hr2 hc
    have hset := hset z1
    generalize hkp : kpad D = kp at hset hc
    have hkl : kp.length = 2 := by rw [← hkp]; rfl
    rw [l_types_of_0, M_loop, ← l_types_of_0]
    have hi2 : (i : Int) < 2 := by omega
    have hi3 : i < kp.length := by omega
    have hi4 : i ≤ 1 := by omega
    by_cases he : z2 = 0
    · subst he
      rw [if_neg (by simp)] at q1
      simp [b_types_of_0, h1, h2, h6, h16, h17, h18, hlt, hi, hr, hr2, hrl, hw, hc, ge, gs, hset, hkl, hi2, hi3, hi4]
      refine ih (i + 1) (D ++ [z1]) _ _ hd1 (by simp [hD]) (by rw [e1, q1]) (fun h => ?_) ?_ ?_ ?_ ?_ ?_ ?_
      · rw [e2 (by rw [q1]; exact h), q1]; simp
      · simp [h1]
      · simp [h2]
      · simp [h6]
      · simp [h16]
      · simp [h17]
      · simp
    · rw [if_pos he] at q1
      simp [b_types_of_0, h1, h2, h6, h16, h17, h18, hlt, hi, hr, hr2, hrl, hw, he, hc, ge, gs, hset, hkl, hi2, hi3, hi4]
      refine hret _ _ (by rw [e1, q1]; exact he) ?_ ?_
      · simp
      · rw [e1, q1]; simp
theorem OfOK.more {H : Heap} {fv : V} {ρ : Env} {e : Ex} (h : OfOK H fv ρ e) (T : Heap) : OfOK (H ++ T) fv ρ e := fun U => by
  have := h (T ++ U)
  rw [← List.append_assoc] at this
  exact this
theorem of_step (H : Heap) (nf : Nat) (fs cs : List V) (ρ : Env) (hn : NameOK H nf fs cs ρ) (op n : Int) (s : Nm) (x : List Ex) (hl : x.length ≤ 2) (hx : ∀ e ∈ x, OfOK H (.fn (.func nf) fs cs) ρ e) : OfOK H (.fn (.func nf) fs cs) ρ (.mk op n s x) := by
  intro U
  have hx' : ∀ e ∈ x, OfOK (H ++ U) (.fn (.func nf) fs cs) ρ e := fun e he => (hx e he).more U
  have hn' : ∀ T, eval tbl noExt nf (fs ++ .str s :: cs) ((H ++ U) ++ T) = some (.int .i64 (ρ s), (H ++ U) ++ T) := fun T => by
    have := hn.2 (U ++ T) s
    rw [← List.append_assoc] at this
    simpa using this
  have hnf := hn.1
  generalize H ++ U = G at hx' hn' ⊢
  have ge : ∀ (A : Heap) (j : Nat), (G ++ A)[G.length + j]? = A[j]? := fun A j => at_hp rfl A j
  have ge0 : ∀ (A : Heap), (G ++ A)[G.length]? = A[0]? := fun A => at_hp rfl A 0
  have hcl : (Ex.rows x).length = x.length := by rw [Ex.rows_eq]; simp
  have hz : (Ex.mk op n s x).ty ρ = if (Ex.tys ρ x).2 ≠ 0 then (0, (Ex.tys ρ x).2) else tyOp ρ op s ((Ex.tys ρ x).1.getD 0 0) ((Ex.tys ρ x).1.getD 1 0) := by rw [Ex.ty]
  generalize (Ex.mk op n s x).ty ρ = z at hz ⊢
  simp only [Ex.cells]
  rw [eval_M rfl rfl t_types_of rfl]
  simp [c_types_of, hcl]
  refine of_loop G ρ nf fs cs x [.int .i64 op, .int .i64 n, .str s, .sl 4 (Ex.rows x)] hl hx' _ _ ?_ ?_ x 0 [] [] _ rfl rfl rfl (fun _ => rfl) ?_ ?_ ?_ ?_ ?_ ?_
  · intro φ' T he h4 h5
    rw [if_pos he] at hz
    subst hz
    simp [h4, h5]
  · intro φ' T he h1 h2 h6
    rw [if_neg (by simp [he])] at hz
    generalize (Ex.tys ρ x).1 = K at hz ⊢
    simp only [kpad]
    generalize K.getD 0 0 = a at hz ⊢
    generalize K.getD 1 0 = b at hz ⊢
    subst hz
    have bd : ∀ u v : Int, (u == v) = decide (u = v) := fun u v => by by_cases h : u = v <;> simp [h]
    have bn : ∀ u v : Int, (u != v) = decide (u ≠ v) := fun u v => by by_cases h : u = v <;> simp [h]
    unfold tyOp
    simp only [bd, bn]
    clear hx hx'
    by_cases c1 : op = 1
    · simp [r_types_of_0, h1, h2, h6, ge, ge0, c1]
    by_cases c2 : op = 2
    · simp [r_types_of_0, h1, h2, h6, ge, ge0, c1, c2]
    by_cases c3 : op = 3
    · simp [r_types_of_0, h1, h2, h6, ge, ge0, c1, c2, c3]
    by_cases c4 : op = 4
    · by_cases h0 : ρ s = 0
      · rw [h0] at hn'
        simp [r_types_of_0, h1, h2, h6, ge, ge0, c1, c2, c3, c4, hn', hnf, h0]
      · simp [r_types_of_0, h1, h2, h6, ge, ge0, c1, c2, c3, c4, hn', hnf, h0]
    by_cases c5 : op = 5
    · simp [r_types_of_0, h1, h2, h6, ge, ge0, c1, c2, c3, c4, c5, is_eq]
    by_cases c6 : op = 6
    · simp [r_types_of_0, h1, h2, h6, ge, ge0, c1, c2, c3, c4, c5, c6, is_eq]
    by_cases c7 : op = 7
    · simp [r_types_of_0, h1, h2, h6, ge, ge0, c1, c2, c3, c4, c5, c6, c7, is_eq]
    by_cases c8 : op = 8
    · simp [r_types_of_0, h1, h2, h6, ge, ge0, c1, c2, c3, c4, c5, c6, c7, c8, is_eq]
    by_cases c9 : op = 9
    · by_cases ab : a = b
      · simp [r_types_of_0, h1, h2, h6, ge, ge0, c1, c2, c3, c4, c5, c6, c7, c8, c9, is_eq, ab]
      · simp [r_types_of_0, h1, h2, h6, ge, ge0, c1, c2, c3, c4, c5, c6, c7, c8, c9, is_eq, ab]
    by_cases c10 : op = 10
    · by_cases ab : a = b
      · simp [r_types_of_0, h1, h2, h6, ge, ge0, c1, c2, c3, c4, c5, c6, c7, c8, c9, c10, is_eq, ab]
      · simp [r_types_of_0, h1, h2, h6, ge, ge0, c1, c2, c3, c4, c5, c6, c7, c8, c9, c10, is_eq, ab]
    by_cases c11 : op = 11
    · by_cases ab : a = b
      · simp [r_types_of_0, h1, h2, h6, ge, ge0, c1, c2, c3, c4, c5, c6, c7, c8, c9, c10, c11, is_eq, ab]
      · simp [r_types_of_0, h1, h2, h6, ge, ge0, c1, c2, c3, c4, c5, c6, c7, c8, c9, c10, c11, is_eq, ab]
    by_cases c12 : op = 12
    · by_cases ab : a = b
      · simp [r_types_of_0, h1, h2, h6, ge, ge0, c1, c2, c3, c4, c5, c6, c7, c8, c9, c10, c11, c12, is_eq, ab]
      · simp [r_types_of_0, h1, h2, h6, ge, ge0, c1, c2, c3, c4, c5, c6, c7, c8, c9, c10, c11, c12, is_eq, ab]
    by_cases ab : a = b
    · simp [r_types_of_0, h1, h2, h6, ge, ge0, c1, c2, c3, c4, c5, c6, c7, c8, c9, c10, c11, c12, is_eq, ab]
    · simp [r_types_of_0, h1, h2, h6, ge, ge0, c1, c2, c3, c4, c5, c6, c7, c8, c9, c10, c11, c12, is_eq, ab]
  all_goals simp [kpad]
theorem of_ok (H : Heap) (nf : Nat) (fs cs : List V) (ρ : Env) (hn : NameOK H nf fs cs ρ) : ∀ (n : Nat) (e : Ex), e.size ≤ n → e.thin = true → OfOK H (.fn (.func nf) fs cs) ρ e := by
  intro n
  induction n with
  | zero => intro e h; cases e; simp only [Ex.size] at h; omega
  | succ n ih =>
    intro e h ht
    obtain ⟨op, m, s, x⟩ := e
    simp only [Ex.size] at h
    simp only [Ex.thin, Bool.and_eq_true, decide_eq_true_eq] at ht
    exact of_step H nf fs cs ρ hn op m s x ht.1 fun e he => ih e (by have := Ex.sizes_mem he; omega) (Ex.thins_mem ht.2 he)
end Go.AM.Spec
namespace Go.AM.Spec
set_option linter.unusedVariables false
set_option linter.unusedSimpArgs false
set_option maxHeartbeats 4000000
set_option maxRecDepth 10000
structure Sc (H : Heap) (q cap : Nat) (cs : List V) (ids : List Nat) (sc : List Mp) : Prop where
  cells : H[q]? = some (some cs)
  capc : cap ≤ cs.length
  lcap : sc.length ≤ cap
  lids : ids.length = sc.length
  ptrs : ∀ k j : Nat, ids[k]? = some j → cs[k]? = some (V.mptr j)
  maps : ∀ (k j : Nat) (m : Mp), ids[k]? = some j → sc[k]? = some m → H[j]? = some (some (mpc m))
theorem set_same {α : Type} {H : List α} {i : Nat} {v : α} (h : H[i]? = some v) : H.set i v = H := by
  apply List.ext_getElem?
  intro j
  by_cases e : i = j
  · subst e
    rw [List.getElem?_set_self (List.getElem?_eq_some_iff.1 h).1, h]
  · rw [List.getElem?_set_ne e]
theorem getE_app {α : Type} {H : List α} {j : Nat} {v : α} (h : H[j]? = some v) (T : List α) : (H ++ T)[j]? = some v := by
  have hj : j < H.length := (List.getElem?_eq_some_iff.1 h).1
  rw [List.getElem?_append_left hj]; exact h
theorem Sc.more {H : Heap} {q cap : Nat} {cs : List V} {ids : List Nat} {sc : List Mp} (h : Sc H q cap cs ids sc) (T : Heap) : Sc (H ++ T) q cap cs ids sc :=
  ⟨getE_app h.cells T, h.capc, h.lcap, h.lids, h.ptrs, fun k j m a b => getE_app (h.maps k j m a b) T⟩
theorem Sc.set {H : Heap} {q cap : Nat} {cs : List V} {ids : List Nat} {sc : List Mp} (h : Sc H q cap cs ids sc) {i : Nat} (hq : i ≠ q) (hi : i ∉ ids) (v : Option (List V)) : Sc (H.set i v) q cap cs ids sc :=
  ⟨by rw [List.getElem?_set_ne hq]; exact h.cells, h.capc, h.lcap, h.lids, h.ptrs, fun k j m a b => by
    have hj : i ≠ j := fun e => hi (by rw [e]; exact List.mem_of_getElem? a)
    rw [List.getElem?_set_ne hj]; exact h.maps k j m a b⟩
theorem kind_loop {G : Heap} {q cap : Nat} {cs : List V} {ids : List Nat} {sc : List Mp} (hS : Sc G q cap cs ids sc) (hl : sc.length ≤ 1000000) (s : Nm) (k : List Item) (R : Option (V × Heap))
    (hret : ∀ φ', Fr.get φ' 4 = .int .i64 (envOf sc s) → retK k φ' G = R)
    (hexit : ∀ φ', envOf sc s = 0 → M (eval tbl noExt) k φ' G = R) :
    ∀ (l : List Mp) (i : Nat) (φ : Fr), sc.drop i = l → envOf sc s = envOf l s →
      Fr.get φ 1 = .str s → Fr.get φ 8 = .mg 1 q 0 sc.length cap → Fr.get φ 9 = .int .i64 sc.length → Fr.get φ 10 = .int .i64 i →
      M (eval tbl noExt) (.code l_types_scope_kind_0 :: .blk 0 :: k) φ G = R := by
  intro l
  induction l with
  | nil =>
    intro i φ hd e1 h1 h8 h9 h10
    have hi : sc.length ≤ i := by rw [← Nat.sub_eq_zero_iff_le, ← List.length_drop, hd]; rfl
    have hlt : ¬ ((i : Int) < sc.length) := by omega
    rw [l_types_scope_kind_0, M_loop, ← l_types_scope_kind_0]
    simp [b_types_scope_kind_0, h1, h8, h9, h10, hlt]
    exact hexit _ e1
  | cons m l ih =>
    intro i φ hd e1 h1 h8 h9 h10
    have hi : i < sc.length := by
      have : (sc.drop i).length = l.length + 1 := by rw [hd]; rfl
      rw [List.length_drop] at this; omega
    have hlt : (i : Int) < sc.length := by omega
    have hsm : sc[i]? = some m := by rw [← List.head?_drop, hd]; rfl
    have hd1 : sc.drop (i + 1) = l := by rw [← List.tail_drop, hd]; rfl
    obtain ⟨j, hj⟩ : ∃ j, ids[i]? = some j := ⟨_, List.getElem?_eq_getElem (by rw [hS.lids]; exact hi)⟩
    have hp := hS.ptrs i j hj
    have hm := hS.maps i j m hj hsm
    have hq := hS.cells
    have hw : IntKind.i64.wrap ((i : Int) + 1) = ((i + 1 : Nat) : Int) := by rw [w64 (by omega) (by omega)]; rfl
    have hic : i < cs.length := by have := hS.capc; have := hS.lcap; omega
    have hp2 : ∀ h, cs[i]'h = .mptr j := fun h => by rw [List.getElem?_eq_getElem h] at hp; exact Option.some.inj hp
    have hmo : mapOf G false [.str] (.mptr j) = some (mks m, mvs m) := by simp [mapOf, hm, mpc]
    have hkw := keyWell_str s
    have hlk := look_mp s m
    have hqi : q < G.length := (List.getElem?_eq_some_iff.1 hq).1
    have hq2 : ∀ h, G[q]'h = some cs := fun h => by rw [List.getElem?_eq_getElem h] at hq; exact Option.some.inj hq
    rw [l_types_scope_kind_0, M_loop, ← l_types_scope_kind_0]
    by_cases h0 : m.get s = 0
    · rw [h0] at hlk
      simp [b_types_scope_kind_0, h1, h8, h9, h10, hlt, hi, hw, hq, hq2, hqi, hp, hp2, hic, hmo, hkw, keyOf, hlk]
      refine ih (i + 1) _ hd1 (by rw [e1, envOf, h0]; simp) ?_ ?_ ?_ ?_
      · simp [h1]
      · simp [h8]
      · simp [h9]
      · simp
    · simp [b_types_scope_kind_0, h1, h8, h9, h10, hlt, hi, hw, hq, hq2, hqi, hp, hp2, hic, hmo, hkw, keyOf, hlk, h0]
      refine hret _ ?_
      rw [e1, envOf, if_pos h0]
      simp
theorem kind_eq {G : Heap} {q cap : Nat} {cs : List V} {ids : List Nat} {sc : List Mp} (hS : Sc G q cap cs ids sc) (hl : sc.length ≤ 1000000) (s : Nm) :
    eval tbl noExt n_types_scope_kind [.mg 1 q 0 sc.length cap, .str s] G = some (.int .i64 (envOf sc s), G) := by
  rw [eval_M rfl rfl t_types_scope_kind rfl]
  simp [c_types_scope_kind]
  refine kind_loop hS hl s _ _ ?_ ?_ sc 0 _ rfl rfl ?_ ?_ ?_ ?_
  · intro φ' h4; simp [h4]
  · intro φ' h0; simp [r_types_scope_kind_0, h0]
  all_goals simp
theorem Sc.name {G : Heap} {q cap : Nat} {cs : List V} {ids : List Nat} {sc : List Mp} (hS : Sc G q cap cs ids sc) (hl : sc.length ≤ 1000000) :
    NameOK G n_types_scope_kind [.mg 1 q 0 sc.length cap] [] (envOf sc) := ⟨lt_types_scope_kind, fun T s => kind_eq (hS.more T) hl s⟩
theorem fail_eq {H : Heap} {i : Nat} {a b n : V} {f : Flt} (h : H[i]? = some (some [a, b, n, .int .i64 f.1, .int .i64 f.2])) (e at_ : Int) :
    eval tbl noExt n_ptypes_checker_fail [.ptr i 0, .int .i64 e, .int .i64 at_] H = some (.tup [], H.set i (some [a, b, n, .int .i64 (failF f e at_).1, .int .i64 (failF f e at_).2])) := by
  obtain ⟨f1, f2⟩ := f
  have hi : i < H.length := (List.getElem?_eq_some_iff.1 h).1
  have hH : ∀ x, H[i]'x = some [a, b, n, .int .i64 f1, .int .i64 f2] := fun x => by rw [List.getElem?_eq_getElem x] at h; exact Option.some.inj h
  rw [eval_M rfl rfl t_ptypes_checker_fail rfl]
  have hs := set_same h
  simp only at hs
  have htk : ∀ w, List.take H.length (H.set i w) = H.set i w := fun w => List.take_of_length_le (by simp)
  by_cases h1 : f1 = 0
  · subst h1
    by_cases h2 : f2 = 0
    · simp [c_ptypes_checker_fail, h, hi, hH, h2, failF, eqCells, htk]
    · simp [c_ptypes_checker_fail, h, hi, hH, h2, failF, eqCells, hs]
  · simp [c_ptypes_checker_fail, h, hi, hH, h1, failF, eqCells, hs]
end Go.AM.Spec
namespace Go.AM.Spec
set_option linter.unusedVariables false
set_option linter.unusedSimpArgs false
set_option maxHeartbeats 4000000
set_option maxRecDepth 10000
def cOf (sv pv nv : V) (f : Flt) : Option (List V) := some [sv, pv, nv, .int .i64 f.1, .int .i64 f.2]
theorem exprs_loop (H : Heap) (i q cap : Nat) (cs : List V) (ids : List Nat) (sc : List Mp) (hS : Sc H q cap cs ids sc) (hl : sc.length ≤ 1000000) (hiq : i ≠ q) (hid : i ∉ ids) (hi : i < H.length)
    (pv nv : V) (op s : V) (at_ opn : Int) (E : List V) (hop : E[0]? = some (V.int .i64 opn)) (x : List Ex) (hx : Ex.thins x = true) (hxl : x.length ≤ 1000000) (f0 : Flt) (k : List Item) (R : Option (V × Heap))
    (hexit : ∀ φ' T, Fr.get φ' 7 = .int .i64 (exprsF (envOf sc) opn at_ 0 x 0 f0).1 → M (eval tbl noExt) k φ' (H.set i (cOf (.mg 1 q 0 sc.length cap) pv nv (exprsF (envOf sc) opn at_ 0 x 0 f0).2) ++ (some E :: T)) = R) :
    ∀ (l : List Ex) (j : Nat) (last : Int) (f : Flt) (T : Heap) (φ : Fr), x.drop j = l → exprsF (envOf sc) opn at_ 0 x 0 f0 = exprsF (envOf sc) opn at_ j l last f →
      Fr.get φ 0 = .ptr i 0 → Fr.get φ 2 = .int .i64 at_ → Fr.get φ 4 = .ptr H.length 0 → Fr.get φ 7 = .int .i64 last → Fr.get φ 13 = .sl 4 (Ex.rows x) → Fr.get φ 14 = .int .i64 x.length → Fr.get φ 15 = .int .i64 j →
      M (eval tbl noExt) (.code l_ptypes_checker_exprs_0 :: .blk 0 :: k) φ (H.set i (cOf (.mg 1 q 0 sc.length cap) pv nv f) ++ (some E :: T)) = R := by
  intro l
  induction l with
  | nil =>
    intro j last f T φ hd e1 h0 h2 h4 h7 h13 h14 h15
    have hj : x.length ≤ j := by rw [← Nat.sub_eq_zero_iff_le, ← List.length_drop, hd]; rfl
    have hlt : ¬ ((j : Int) < x.length) := by omega
    rw [exprsF] at e1
    rw [e1] at hexit
    rw [l_ptypes_checker_exprs_0, M_loop, ← l_ptypes_checker_exprs_0]
    simp [b_ptypes_checker_exprs_0, h0, h2, h4, h7, h13, h14, h15, hlt]
    refine hexit _ _ ?_
    simp [h7]
  | cons e l ih =>
    intro j last f T φ hd e1 h0 h2 h4 h7 h13 h14 h15
    have hj : j < x.length := by
      have : (x.drop j).length = l.length + 1 := by rw [hd]; rfl
      rw [List.length_drop] at this; omega
    have hlt : (j : Int) < x.length := by omega
    have hxe : x[j]? = some e := by rw [← List.head?_drop, hd]; rfl
    have hmem : e ∈ x := List.mem_of_getElem? hxe
    have hd1 : x.drop (j + 1) = l := by rw [← List.tail_drop, hd]; rfl
    have hr : (Ex.rows x)[j]? = some e.cells := by rw [Ex.rows_eq, List.getElem?_map, hxe]; rfl
    have hr2 : ∀ h, (Ex.rows x)[j]'h = e.cells := fun h => by rw [List.getElem?_eq_getElem h] at hr; exact Option.some.inj hr
    have hrl : (Ex.rows x).length = x.length := by rw [Ex.rows_eq]; simp
    have hw : IntKind.i64.wrap ((j : Int) + 1) = ((j + 1 : Nat) : Int) := by rw [w64 (by omega) (by omega)]; rfl
    obtain ⟨sl, ss⟩ := Ex.strips e
    have hth := Ex.thins_mem hx hmem
    rw [exprsF] at e1
    generalize hG : H.set i (cOf (.mg 1 q 0 sc.length cap) pv nv f) = G
    have hGl : G.length = H.length := by rw [← hG]; simp
    have hSG : Sc G q cap cs ids sc := hG ▸ hS.set hiq hid _
    have hof := of_ok G _ _ _ _ (hSG.name hl) e.size e (Nat.le_refl _) hth (some E :: (T ++ [some e.cells]))
    have hGi : G[i]? = some (cOf (.mg 1 q 0 sc.length cap) pv nv f) := by rw [← hG, List.getElem?_set_self hi]
    have hfail : ∀ (A : Heap) (e' : Int), eval tbl noExt n_ptypes_checker_fail [.ptr i 0, .int .i64 e', .int .i64 at_] (G ++ A) = some (.tup [], H.set i (cOf (.mg 1 q 0 sc.length cap) pv nv (failF f e' at_)) ++ A) := by
      intro A e'
      rw [fail_eq (f := f) (getE_app hGi A), List.set_append_left _ _ (by omega), ← hG, List.set_set]
      rfl
    have gc : ∀ A : Heap, (G ++ A)[i]? = some (some [.mg 1 q 0 sc.length cap, pv, nv, .int .i64 f.1, .int .i64 f.2]) := fun A => getE_app hGi A
    have ge : ∀ (A : Heap) (n : Nat), (G ++ A)[H.length + n]? = A[n]? := fun A n => by rw [← hGl]; exact at_hp rfl A n
    have ge0 : ∀ (A : Heap), (G ++ A)[H.length]? = A[0]? := fun A => by rw [← hGl]; exact at_hp rfl A 0
    have gs : ∀ (A : Heap) (n : Nat) v, (G ++ A).set (H.length + n) v = G ++ A.set n v := fun A n v => by rw [← hGl]; exact set_hp rfl A n v
    have gw := fun H' => wants_eq opn j (e.ty (envOf sc)).1 H'
    obtain ⟨op', m', s', y⟩ := e
    generalize (Ex.mk op' m' s' y).ty (envOf sc) = z at e1 hof gw
    obtain ⟨z1, z2⟩ := z
    simp only [Ex.cells] at hr hr2 hof
    simp only at e1 gw
    have hEl : 0 < E.length := (List.getElem?_eq_some_iff.1 hop).1
    have hop2 : ∀ h, E[0]'h = V.int .i64 opn := fun h => by rw [List.getElem?_eq_getElem h] at hop; exact Option.some.inj hop
    rw [l_ptypes_checker_exprs_0, M_loop, ← l_ptypes_checker_exprs_0]
    by_cases hz : z2 = 0
    · subst hz
      rw [if_neg (by simp)] at e1
      cases hwt : wants opn j z1 with
      | true =>
        rw [hwt] at gw
        rw [if_pos hwt] at e1
        simp [b_ptypes_checker_exprs_0, h0, h2, h4, h7, h13, h14, h15, hlt, hj, hr, hr2, hrl, hw, gc, ge, ge0, gs, hGl, hof, gw, hop, hop2, hEl]
        rw [← hG]
        refine ih (j + 1) _ _ _ _ hd1 e1 ?_ ?_ ?_ ?_ ?_ ?_ ?_
        · simp [h0]
        · simp [h2]
        · simp [h4]
        · simp
        · simp [h13]
        · simp [h14]
        · simp
      | false =>
        rw [hwt] at gw
        rw [if_neg (by rw [hwt]; simp)] at e1
        simp [b_ptypes_checker_exprs_0, h0, h2, h4, h7, h13, h14, h15, hlt, hj, hr, hr2, hrl, hw, gc, ge, ge0, gs, hGl, hof, gw, hop, hop2, hEl, hfail]
        refine ih (j + 1) _ _ _ _ hd1 e1 ?_ ?_ ?_ ?_ ?_ ?_ ?_
        · simp [h0]
        · simp [h2]
        · simp [h4]
        · simp
        · simp [h13]
        · simp [h14]
        · simp
    · rw [if_pos hz] at e1
      simp [b_ptypes_checker_exprs_0, h0, h2, h4, h7, h13, h14, h15, hlt, hj, hr, hr2, hrl, hw, gc, ge, ge0, gs, hGl, hof, hz, hfail]
      refine ih (j + 1) _ _ _ _ hd1 e1 ?_ ?_ ?_ ?_ ?_ ?_ ?_
      · simp [h0]
      · simp [h2]
      · simp [h4]
      · simp
      · simp [h13]
      · simp [h14]
      · simp
theorem exprs_eq (H : Heap) (i q cap : Nat) (cs : List V) (ids : List Nat) (sc : List Mp) (hS : Sc H q cap cs ids sc) (hl : sc.length ≤ 1000000) (hiq : i ≠ q) (hid : i ∉ ids)
    (pv nv : V) (f : Flt) (hc : H[i]? = some (cOf (.mg 1 q 0 sc.length cap) pv nv f)) (op n : Int) (s : Nm) (x : List Ex) (b c : List Sm) (g : Bool) (hx : Ex.thins x = true) (hxl : x.length ≤ 1000000) (at_ : Int) :
    eval tbl noExt n_ptypes_checker_exprs [.ptr i 0, .agg (Sm.mk op s n x b c g).cells, .int .i64 at_] H =
      some (.int .i64 (exprsF (envOf sc) op at_ 0 x 0 f).1, H.set i (cOf (.mg 1 q 0 sc.length cap) pv nv (exprsF (envOf sc) op at_ 0 x 0 f).2)) := by
  have hi : i < H.length := (List.getElem?_eq_some_iff.1 hc).1
  have hH : H.set i (cOf (.mg 1 q 0 sc.length cap) pv nv f) = H := set_same hc
  have hrl : (Ex.rows x).length = x.length := by rw [Ex.rows_eq]; simp
  have ge0 : ∀ (A : Heap), (H ++ A)[H.length]? = A[0]? := fun A => at_hp rfl A 0
  rw [eval_M rfl rfl t_ptypes_checker_exprs rfl]
  simp only [Sm.cells]
  simp [c_ptypes_checker_exprs, hrl]
  have key : ∀ (k : List Item) (R : Option (V × Heap)) (φ : Fr),
      (∀ φ' T, Fr.get φ' 7 = .int .i64 (exprsF (envOf sc) op at_ 0 x 0 f).1 → M (eval tbl noExt) k φ' (H.set i (cOf (.mg 1 q 0 sc.length cap) pv nv (exprsF (envOf sc) op at_ 0 x 0 f).2) ++ (some [.int .i64 op, .str s, .int .i64 n, .sl 4 (Ex.rows x), .sl 7 (Sm.rows b), .sl 7 (Sm.rows c), .bool g] :: T)) = R) →
      Fr.get φ 0 = .ptr i 0 → Fr.get φ 2 = .int .i64 at_ → Fr.get φ 4 = .ptr H.length 0 → Fr.get φ 7 = .int .i64 0 → Fr.get φ 13 = .sl 4 (Ex.rows x) → Fr.get φ 14 = .int .i64 x.length → Fr.get φ 15 = .int .i64 0 →
      M (eval tbl noExt) (.code l_ptypes_checker_exprs_0 :: .blk 0 :: k) φ (H ++ [some [.int .i64 op, .str s, .int .i64 n, .sl 4 (Ex.rows x), .sl 7 (Sm.rows b), .sl 7 (Sm.rows c), .bool g]]) = R := by
    intro k R φ hex h0 h2 h4 h7 h13 h14 h15
    have := exprs_loop H i q cap cs ids sc hS hl hiq hid hi pv nv .undef .undef at_ op [.int .i64 op, .str s, .int .i64 n, .sl 4 (Ex.rows x), .sl 7 (Sm.rows b), .sl 7 (Sm.rows c), .bool g] rfl x hx hxl f k R hex x 0 0 f [] φ rfl rfl h0 h2 h4 h7 h13 h14 h15
    rwa [hH] at this
  refine key _ _ _ ?_ ?_ ?_ ?_ ?_ ?_ ?_ ?_
  · intro φ' T h7
    have htk : ∀ w, List.take H.length (H.set i w ++ (some [.int .i64 op, .str s, .int .i64 n, .sl 4 (Ex.rows x), .sl 7 (Sm.rows b), .sl 7 (Sm.rows c), .bool g] :: T)) = H.set i w := fun w => by
      rw [List.take_append_of_le_length (by simp), List.take_of_length_le (by simp)]
    simp [r_ptypes_checker_exprs_0, h7, htk]
  all_goals simp
theorem Sc.put {H : Heap} {q cap : Nat} {cs : List V} {ids : List Nat} {pre : List Mp} {m : Mp} (h : Sc H q cap cs ids (pre ++ [m])) {j : Nat} (hj : ids[pre.length]? = some j) (hq : q ≠ j) (hn : ids.Nodup) (m' : Mp) : Sc (H.set j (some (mpc m'))) q cap cs ids (pre ++ [m']) := by
  have hl := h.lids
  rw [List.length_append] at hl
  have hjl : j < H.length := by
    have := h.maps pre.length j m hj (by simp)
    exact (List.getElem?_eq_some_iff.1 this).1
  refine ⟨by rw [List.getElem?_set_ne hq.symm]; exact h.cells, h.capc, by simpa using h.lcap, by simpa using hl, h.ptrs, fun k j' n a b => ?_⟩
  by_cases hk : k < pre.length
  · rw [List.getElem?_append_left hk] at b
    have hne : j ≠ j' := by
      intro e
      subst e
      have h1 : k < ids.length := (List.getElem?_eq_some_iff.1 a).1
      have := (List.getElem?_inj h1 hn).1 (a.trans hj.symm)
      omega
    rw [List.getElem?_set_ne hne]
    exact h.maps k j' n a (by rw [List.getElem?_append_left hk]; exact b)
  · have hk2 : k = pre.length := by
      have := (List.getElem?_eq_some_iff.1 b).1
      simp at this; omega
    subst hk2
    rw [hj] at a
    obtain rfl := Option.some.inj a
    simp at b
    rw [List.getElem?_set_self hjl, b]
theorem let_eq (H : Heap) (i q cap : Nat) (cs : List V) (ids : List Nat) (pre : List Mp) (m : Mp) (hS : Sc H q cap cs ids (pre ++ [m])) (hl : pre.length ≤ 100000) (hiq : i ≠ q) (hid : i ∉ ids)
    (pv nv : V) (f : Flt) (hc : H[i]? = some (cOf (.mg 1 q 0 (pre ++ [m]).length cap) pv nv f)) (s : Nm) (k at_ : Int) (j : Nat) (hj : ids[pre.length]? = some j) :
    eval tbl noExt n_ptypes_checker_let [.ptr i 0, .str s, .int .i64 k, .int .i64 at_] H =
      some (.tup [], (H.set i (cOf (.mg 1 q 0 (pre ++ [m]).length cap) pv nv (if envOf (pre ++ [m]) s ≠ 0 ∧ envOf (pre ++ [m]) s ≠ k then failF f 11 at_ else f))).set j (some (mpc (m.put s k)))) := by
  have hi : i < H.length := (List.getElem?_eq_some_iff.1 hc).1
  have hij : i ≠ j := fun e => hid (by rw [e]; exact List.mem_of_getElem? hj)
  have hm := hS.maps pre.length j m hj (by simp)
  have hjl : j < H.length := (List.getElem?_eq_some_iff.1 hm).1
  have hp := hS.ptrs _ _ hj
  have hkind := kind_eq hS (by simp; omega) s
  have hlen : (pre ++ [m]).length = pre.length + 1 := by simp
  have hfail := fail_eq hc 11 at_
  have hw : IntKind.i64.wrap (((pre.length : Int) + 1) - 1) = pre.length := by rw [w64 (by omega) (by omega)]; omega
  have hw2 : IntKind.i64.wrap (pre.length : Int) = pre.length := by rw [w64 (by omega) (by omega)]
  have hput : ∀ G : Heap, G[j]? = some (some (mpc m)) → mapPut G false [.str] (.mptr j) [.str s] (.int .i64 k) = some (G.set j (some (mpc (m.put s k)))) := fun G hG => by
    have h2 := put_mp s k m
    simp [mapPut, mapOf, hG, mpc, h2, keyWell_str]
  have hq := hS.cells
  rw [hlen] at hkind hc hfail ⊢
  have hc' : H[i]? = some (some [.mg 1 q 0 (pre.length + 1) cap, pv, nv, .int .i64 f.1, .int .i64 f.2]) := hc
  rw [eval_M rfl rfl t_ptypes_checker_let rfl]
  have hpc : pre.length < cs.length := (List.getElem?_eq_some_iff.1 hp).1
  have hp2 : ∀ h, cs[pre.length]'h = V.mptr j := fun h => by rw [List.getElem?_eq_getElem h] at hp; exact Option.some.inj hp
  have htk : ∀ G : Heap, G.length = H.length → List.take H.length G = G := fun G h => List.take_of_length_le (by omega)
  have hpn : ((pre.length : Int)) < (pre.length : Int) + 1 := by omega
  by_cases h1 : envOf (pre ++ [m]) s = 0
  · rw [if_neg (by simp [h1])]
    rw [h1] at hkind
    have hpt := hput H hm
    rw [show H.set i (cOf (.mg 1 q 0 (pre.length + 1) cap) pv nv f) = H from set_same hc]
    simp [c_ptypes_checker_let, hc', hkind, hw, hw2, hq, hp, hp2, hpc, hpn, keyOf, hpt, htk]
  by_cases h2 : envOf (pre ++ [m]) s = k
  · rw [if_neg (by simp [h2])]
    have hpt := hput H hm
    rw [h2] at hkind h1
    rw [show H.set i (cOf (.mg 1 q 0 (pre.length + 1) cap) pv nv f) = H from set_same hc]
    simp [c_ptypes_checker_let, hc', hkind, h1, hw, hw2, hq, hp, hp2, hpc, hpn, keyOf, hpt, htk]
  · rw [if_pos ⟨h1, h2⟩]
    have hq' : (H.set i (cOf (.mg 1 q 0 (pre.length + 1) cap) pv nv (failF f 11 at_)))[q]? = some (some cs) := by rw [List.getElem?_set_ne hiq]; exact hq
    have hpt := hput (H.set i (cOf (.mg 1 q 0 (pre.length + 1) cap) pv nv (failF f 11 at_))) (by rw [List.getElem?_set_ne hij]; exact hm)
    have hc2 : (H.set i (cOf (.mg 1 q 0 (pre.length + 1) cap) pv nv (failF f 11 at_)))[i]? = some (some [.mg 1 q 0 (pre.length + 1) cap, pv, nv, .int .i64 (failF f 11 at_).1, .int .i64 (failF f 11 at_).2]) := List.getElem?_set_self hi
    rw [show (some [.mg 1 q 0 (pre.length + 1) cap, pv, nv, .int .i64 (failF f 11 at_).1, .int .i64 (failF f 11 at_).2] : Option (List V)) = cOf (.mg 1 q 0 (pre.length + 1) cap) pv nv (failF f 11 at_) from rfl] at hfail
    have hGl : (H.set i (cOf (.mg 1 q 0 (pre.length + 1) cap) pv nv (failF f 11 at_))).length = H.length := by simp
    generalize H.set i (cOf (.mg 1 q 0 (pre.length + 1) cap) pv nv (failF f 11 at_)) = G at hfail hq' hpt hc2 hGl ⊢
    simp [c_ptypes_checker_let, hc', hkind, h1, h2, hw, hw2, hq', hc2, hfail, hp, hp2, hpc, hpn, keyOf, hpt, htk, hGl]
end Go.AM.Spec
namespace Go.AM.Spec
set_option linter.unusedVariables false
set_option linter.unusedSimpArgs false
set_option maxHeartbeats 4000000
set_option maxRecDepth 10000
def Scp (H : Heap) (i pj : Nat) (sv : V) (ow ids : List Nat) (sc : List Mp) : Prop :=
  (sv = .nils 1 ∧ sc = [] ∧ ow = [] ∧ ids = []) ∨
  ∃ q cap cs, sv = .mg 1 q 0 sc.length cap ∧ ow = [q] ∧ Sc H q cap cs ids sc ∧ ids.Nodup ∧ i ≠ q ∧ i ∉ ids ∧ pj ≠ q ∧ pj ∉ ids ∧ q ∉ ids
structure Ck (H : Heap) (i pj : Nat) (pr : Mp) (sv : V) (ow ids : List Nat) (sc : List Mp) (no : Int) (f : Flt) : Prop where
  c : H[i]? = some (cOf sv (.mptr pj) (.int .i64 no) f)
  p : H[pj]? = some (some (mpc pr))
  ne : i ≠ pj
  s : Scp H i pj sv ow ids sc
theorem Ck.hi {H : Heap} {i pj : Nat} {pr : Mp} {sv : V} {ow ids : List Nat} {sc : List Mp} {no : Int} {f : Flt} (h : Ck H i pj pr sv ow ids sc no f) : i < H.length := (List.getElem?_eq_some_iff.1 h.c).1
theorem Scp.more {H : Heap} {i pj : Nat} {sv : V} {ow ids : List Nat} {sc : List Mp} (h : Scp H i pj sv ow ids sc) (T : Heap) : Scp (H ++ T) i pj sv ow ids sc := by
  rcases h with h | ⟨q, cap, cs, h1, h2, h3, h4⟩
  · exact .inl h
  · exact .inr ⟨q, cap, cs, h1, h2, h3.more T, h4⟩
theorem Scp.set {H : Heap} {i pj : Nat} {sv : V} {ow ids : List Nat} {sc : List Mp} (h : Scp H i pj sv ow ids sc) (v : Option (List V)) : Scp (H.set i v) i pj sv ow ids sc := by
  rcases h with h | ⟨q, cap, cs, h1, h2, h3, h4, h5, h6, h7⟩
  · exact .inl h
  · exact .inr ⟨q, cap, cs, h1, h2, h3.set h5 h6 v, h4, h5, h6, h7⟩
theorem Ck.more {H : Heap} {i pj : Nat} {pr : Mp} {sv : V} {ow ids : List Nat} {sc : List Mp} {no : Int} {f : Flt} (h : Ck H i pj pr sv ow ids sc no f) (T : Heap) : Ck (H ++ T) i pj pr sv ow ids sc no f :=
  ⟨getE_app h.c T, getE_app h.p T, h.ne, h.s.more T⟩
theorem Ck.set {H : Heap} {i pj : Nat} {pr : Mp} {sv : V} {ow ids : List Nat} {sc : List Mp} {no : Int} {f : Flt} (h : Ck H i pj pr sv ow ids sc no f) (no' : Int) (f' : Flt) :
    Ck (H.set i (cOf sv (.mptr pj) (.int .i64 no') f')) i pj pr sv ow ids sc no' f' :=
  ⟨List.getElem?_set_self h.hi, by rw [List.getElem?_set_ne h.ne]; exact h.p, h.ne, h.s.set _⟩
def Keeps (H K : Heap) (i : Nat) (ow ow' : List Nat) : Prop := H.length ≤ K.length ∧ (∀ j, j < H.length → j ≠ i → j ∉ ow → K[j]? = H[j]?) ∧ ∀ q ∈ ow', q ∈ ow ∨ H.length ≤ q
theorem Keeps.refl (H : Heap) (i : Nat) (ow : List Nat) : Keeps H H i ow ow := ⟨Nat.le_refl _, fun _ _ _ _ => rfl, fun _ h => .inl h⟩
theorem Keeps.trans {H K L : Heap} {i : Nat} {a b c : List Nat} (h1 : Keeps H K i a b) (h2 : Keeps K L i b c) : Keeps H L i a c := by
  obtain ⟨l1, k1, o1⟩ := h1
  obtain ⟨l2, k2, o2⟩ := h2
  refine ⟨Nat.le_trans l1 l2, fun j hj hi ha => ?_, fun q hq => ?_⟩
  · have hb : j ∉ b := fun h => (o1 j h).elim ha (fun h => by omega)
    rw [k2 j (by omega) hi hb, k1 j hj hi ha]
  · rcases o2 q hq with h | h
    · exact o1 q h
    · exact .inr (by omega)
theorem Keeps.set {H K : Heap} {i : Nat} {a b : List Nat} (h : Keeps H K i a b) (v : Option (List V)) : Keeps H (K.set i v) i a b :=
  ⟨by rw [List.length_set]; exact h.1, fun j hj hi ha => by rw [List.getElem?_set_ne (Ne.symm hi)]; exact h.2.1 j hj hi ha, h.2.2⟩
theorem Keeps.new {H K : Heap} {i : Nat} {a b : List Nat} (h : Keeps H K i a b) {t : Nat} (ht : H.length ≤ t) (v : Option (List V)) : Keeps H (K.set t v) i a b :=
  ⟨by rw [List.length_set]; exact h.1, fun j hj hi ha => by rw [List.getElem?_set_ne (by omega)]; exact h.2.1 j hj hi ha, h.2.2⟩
theorem Keeps.more {H K : Heap} {i : Nat} {a b : List Nat} (h : Keeps H K i a b) (T : Heap) : Keeps H (K ++ T) i a b :=
  ⟨by rw [List.length_append]; have := h.1; omega, fun j hj hi ha => by rw [List.getElem?_append_left (by have := h.1; omega)]; exact h.2.1 j hj hi ha, h.2.2⟩
theorem push_app {H : Heap} {i pj : Nat} {pr : Mp} {sv : V} {ow ids : List Nat} {sc : List Mp} {no : Int} {f : Flt} (h : Ck H i pj pr sv ow ids sc no f) (hl : sc.length ≤ 100000) :
    ∃ q cap G, appM (H ++ [some (mpc []), some [V.mptr H.length]]) 1 8 sv 1 [V.mptr H.length] = some (.mg 1 q 0 (sc.length + 1) cap, G) ∧
      Ck (G.set i (cOf (.mg 1 q 0 (sc.length + 1) cap) (.mptr pj) (.int .i64 no) f)) i pj pr (.mg 1 q 0 (sc.length + 1) cap) [q] (ids ++ [H.length]) (sc ++ [[]]) no f ∧
      Keeps H (G.set i (cOf (.mg 1 q 0 (sc.length + 1) cap) (.mptr pj) (.int .i64 no) f)) i ow [q] ∧ G[i]? = H[i]? := by
  have hc := h.c
  have hp := h.p
  have hi := h.hi
  have hpj : pj < H.length := (List.getElem?_eq_some_iff.1 hp).1
  obtain ⟨_, _, hne, hs⟩ := h
  rcases hs with ⟨rfl, rfl, rfl, rfl⟩ | ⟨q, cap, cs, rfl, rfl, hS, hn, h1, h2, h3, h4, h5⟩
  · refine ⟨H.length + 2, 1, H ++ [some (mpc []), some [V.mptr H.length], some [V.mptr H.length]], ?_, ?_, ?_, ?_⟩
    · simp [appM, V.one]
    · rw [List.set_append_left _ _ hi]
      refine ⟨?_, ?_, hne, .inr ⟨H.length + 2, 1, [V.mptr H.length], rfl, rfl, ⟨?_, ?_, ?_, ?_, ?_, ?_⟩, ?_, ?_, ?_, ?_, ?_, ?_⟩⟩
      · rw [List.getElem?_append_left (by simpa using hi), List.getElem?_set_self hi]
      · rw [List.getElem?_append_left (by simpa using hpj), List.getElem?_set_ne hne]; exact hp
      · rw [List.getElem?_append_right (by simp)]; simp
      · simp
      · simp
      · simp
      · intro k j hk
        match k, hk with
        | 0, hk => simpa using hk
        | k + 1, hk => simp at hk
      · intro k j m hk hm
        match k, hk, hm with
        | 0, hk, hm =>
          simp at hk hm
          subst hk; subst hm
          rw [List.getElem?_append_right (by simp)]; simp
        | k + 1, hk, hm => simp at hk
      · simp
      · omega
      · simp; omega
      · omega
      · simp; omega
      · simp
    · exact ((Keeps.refl H i []).more _).set _ |> fun k => ⟨k.1, k.2.1, fun q hq => .inr (by simp at hq; omega)⟩
    · rw [List.getElem?_append_left hi]
  · have hq : q < H.length := (List.getElem?_eq_some_iff.1 hS.cells).1
    have hil : ∀ j ∈ ids, j < H.length := fun j hj => by
      obtain ⟨k, hk⟩ := List.getElem?_of_mem hj
      have hkl : k < sc.length := by have := (List.getElem?_eq_some_iff.1 hk).1; have := hS.lids; omega
      exact (List.getElem?_eq_some_iff.1 (hS.maps k j _ hk (List.getElem?_eq_getElem hkl))).1
    have hnd : (ids ++ [H.length]).Nodup := List.nodup_append.2 ⟨hn, by simp, fun a ha b hb => by simp at hb; have := hil a ha; omega⟩
    have hcell := hS.cells
    have hcell2 : (H ++ [some (mpc []), some [V.mptr H.length]])[q]? = some (some cs) := getE_app hcell _
    have hcc := hS.capc
    have hlc := hS.lcap
    have hlids := hS.lids
    by_cases hcap : sc.length + 1 ≤ cap
    · refine ⟨q, cap, (H.set q (some (cs.set sc.length (V.mptr H.length)))) ++ [some (mpc []), some [V.mptr H.length]], ?_, ?_, ?_, ?_⟩
      · have : 0 + cap * 1 ≤ cs.length := by omega
        simp only [appM, hcell2]
        simp [V.one, hcap, hcc, List.set_append_left _ _ hq]
      · rw [List.set_append_left _ _ (by simpa using hi)]
        refine ⟨?_, ?_, hne, .inr ⟨q, cap, cs.set sc.length (V.mptr H.length), by simp, rfl, ⟨?_, ?_, ?_, ?_, ?_, ?_⟩, hnd, h1, ?_, h3, ?_, ?_⟩⟩
        · rw [List.getElem?_append_left (by simpa using hi), List.getElem?_set_self (by simpa using hi)]
        · rw [List.getElem?_append_left (by simpa using hpj), List.getElem?_set_ne hne, List.getElem?_set_ne (Ne.symm h3)]; exact hp
        · rw [List.getElem?_append_left (by simpa using hq), List.getElem?_set_ne h1, List.getElem?_set_self hq]
        · simpa using hcc
        · simpa using hcap
        · simp [hlids]
        · intro k j hk
          by_cases hkl : k < ids.length
          · rw [List.getElem?_append_left hkl] at hk
            rw [List.getElem?_set_ne (by omega)]
            exact hS.ptrs k j hk
          · have hke : k = ids.length := by
              have := (List.getElem?_eq_some_iff.1 hk).1
              simp at this; omega
            subst hke
            simp at hk
            subst hk
            rw [hlids, List.getElem?_set_self (by omega)]
        · intro k j m hk hm
          by_cases hkl : k < ids.length
          · rw [List.getElem?_append_left hkl] at hk
            rw [List.getElem?_append_left (by omega)] at hm
            have hj := hil j (List.mem_of_getElem? hk)
            have hqj : q ≠ j := fun e => h5 (e ▸ List.mem_of_getElem? hk)
            have hij : i ≠ j := fun e => h2 (e ▸ List.mem_of_getElem? hk)
            rw [List.getElem?_append_left (by simpa using hj), List.getElem?_set_ne hij, List.getElem?_set_ne hqj]
            exact hS.maps k j m hk hm
          · have hke : k = ids.length := by
              have := (List.getElem?_eq_some_iff.1 hk).1
              simp at this; omega
            subst hke
            simp at hk
            subst hk
            rw [hlids] at hm
            simp at hm
            subst hm
            rw [List.getElem?_append_right (by simp)]; simp
        · simp; exact ⟨h2, by omega⟩
        · simp; exact ⟨h4, by omega⟩
        · simp; exact ⟨h5, by omega⟩
      · refine ⟨by simp, fun j hj hji hjo => ?_, fun q' hq' => .inl hq'⟩
        rw [List.getElem?_set_ne (Ne.symm hji), List.getElem?_append_left (by simpa using hj), List.getElem?_set_ne (by simp at hjo; omega)]
      · rw [List.getElem?_append_left (by simpa using hi), List.getElem?_set_ne (Ne.symm h1)]
    · have hce : sc.length = cap := by omega
      refine ⟨H.length + 2, sc.length + 1, (H.set q none) ++ [some (mpc []), some [V.mptr H.length], some (cs.take sc.length ++ [V.mptr H.length])], ?_, ?_, ?_, ?_⟩
      · simp only [appM, hcell2]
        have e2 : sc.length ≤ cs.length := by omega
        have e3 : 2 * (sc.length + 1) * 8 ≤ 2 ^ 48 := by omega
        simp [V.one, hcap, e2, e3, List.set_append_left _ _ hq]
      · rw [List.set_append_left _ _ (by simpa using hi)]
        have htl : (cs.take sc.length).length = sc.length := by rw [List.length_take]; omega
        refine ⟨?_, ?_, hne, .inr ⟨H.length + 2, sc.length + 1, cs.take sc.length ++ [V.mptr H.length], by simp, rfl, ⟨?_, ?_, ?_, ?_, ?_, ?_⟩, hnd, ?_, ?_, ?_, ?_, ?_⟩⟩
        · rw [List.getElem?_append_left (by simpa using hi), List.getElem?_set_self (by simpa using hi)]
        · rw [List.getElem?_append_left (by simpa using hpj), List.getElem?_set_ne hne, List.getElem?_set_ne (Ne.symm h3)]; exact hp
        · rw [List.getElem?_append_right (by simp)]; simp
        · rw [List.length_append, htl]; simp
        · simp
        · simp [hlids]
        · intro k j hk
          by_cases hkl : k < ids.length
          · rw [List.getElem?_append_left hkl] at hk
            rw [List.getElem?_append_left (by omega), List.getElem?_take, if_pos (by omega)]
            exact hS.ptrs k j hk
          · have hke : k = ids.length := by
              have := (List.getElem?_eq_some_iff.1 hk).1
              simp at this; omega
            subst hke
            simp at hk
            subst hk
            rw [List.getElem?_append_right (by omega), htl, hlids]; simp
        · intro k j m hk hm
          by_cases hkl : k < ids.length
          · rw [List.getElem?_append_left hkl] at hk
            rw [List.getElem?_append_left (by omega)] at hm
            have hj := hil j (List.mem_of_getElem? hk)
            have hqj : q ≠ j := fun e => h5 (e ▸ List.mem_of_getElem? hk)
            have hij : i ≠ j := fun e => h2 (e ▸ List.mem_of_getElem? hk)
            rw [List.getElem?_append_left (by simpa using hj), List.getElem?_set_ne hij, List.getElem?_set_ne hqj]
            exact hS.maps k j m hk hm
          · have hke : k = ids.length := by
              have := (List.getElem?_eq_some_iff.1 hk).1
              simp at this; omega
            subst hke
            simp at hk
            subst hk
            rw [hlids] at hm
            simp at hm
            subst hm
            rw [List.getElem?_append_right (by simp)]; simp
        · omega
        · simp; exact ⟨h2, by omega⟩
        · omega
        · simp; exact ⟨h4, by omega⟩
        · intro hm
          rw [List.mem_append] at hm
          rcases hm with hm | hm
          · have := hil _ hm; omega
          · simp at hm
      · refine ⟨by simp, fun j hj hji hjo => ?_, fun q' hq' => .inr (by simp at hq'; omega)⟩
        rw [List.getElem?_set_ne (Ne.symm hji), List.getElem?_append_left (by simpa using hj), List.getElem?_set_ne (by simp at hjo; omega)]
      · rw [List.getElem?_append_left (by simpa using hi), List.getElem?_set_ne (Ne.symm h1)]
end Go.AM.Spec
namespace Go.AM.Spec
set_option linter.unusedVariables false
set_option linter.unusedSimpArgs false
set_option maxHeartbeats 4000000
set_option maxRecDepth 10000
theorem chks_no (pr : Env) (l : List Sm) (d : Nat) (sc : List Mp) (m : Mp) (no : Int) (f : Flt) (h : Sm.oks l d = true) : (Sm.chks pr sc m l no f).1 = no + (Sm.flats l).length := by
  by_cases hf : f = (0, 0)
  · subst hf; rw [(Sm.chks_rk pr l d sc m no h).1]
  · rw [Sm.chks_set pr l sc m no f hf]
def BlkOK (l : List Sm) : Prop := ∀ (H : Heap) (i pj : Nat) (pr : Mp) (sv : V) (ow ids : List Nat) (sc : List Mp) (no : Int) (f : Flt), Ck H i pj pr sv ow ids sc no f → sc.length + Sm.sizes l ≤ 50000 → 0 ≤ no → no + Sm.sizes l ≤ 1000000 → ∀ av : V, (av = .sl 7 (Sm.rows l) ∨ av = .own 7 (Sm.rows l)) →
  ∃ H' sv' ow', eval tbl noExt (wNo n_ptypes_checker_block) [.ptr i 0, av] H = some (.tup [], H') ∧ Ck H' i pj pr sv' ow' ids sc (Sm.chks pr.get sc [] l no f).1 (Sm.chks pr.get sc [] l no f).2 ∧ Keeps H H' i ow ow'
theorem Ck.mg {H : Heap} {i pj : Nat} {pr : Mp} {sv : V} {ow ids : List Nat} {sc : List Mp} {m : Mp} {no : Int} {f : Flt} (h : Ck H i pj pr sv ow ids (sc ++ [m]) no f) :
    ∃ q cap, sv = .mg 1 q 0 (sc ++ [m]).length cap ∧ ow = [q] := by
  rcases h.s with ⟨_, h, _⟩ | ⟨q, cap, cs, h1, h2, _⟩
  · simp at h
  · exact ⟨q, cap, h1, h2⟩
theorem Sm.ok_thin {op : Int} {s : Nm} {n : Int} {e : List Ex} {b c : List Sm} {g : Bool} {d : Nat} (h : (Sm.mk op s n e b c g).ok d = true) : Ex.thins e = true := by
  simp only [Sm.ok, Bool.and_eq_true] at h
  have hs := h.2.1
  unfold shapeOk at hs
  split at hs
  · cases hs
  · simp only [Bool.and_eq_true] at hs
    obtain ⟨_, _, _, _, _, _, _, _, h⟩ := hs
    exact Ex.oks_thin e 8 h
def selfM (sc : List Mp) (m : Mp) (op : Int) (s : Nm) (last : Int) : Mp := if op = 12 then m.put s last else m
def selfF (pr : Env) (sc : List Mp) (m : Mp) (op : Int) (s : Nm) (no last : Int) (f : Flt) : Flt :=
  if op = 12 then (if envOf (sc ++ [m]) s ≠ 0 ∧ envOf (sc ++ [m]) s ≠ last then failF f 11 no else f) else if op = 15 then (if pr s = 0 then failF f 9 no else f) else f
theorem chks_cons (pr : Env) (sc : List Mp) (m : Mp) (op : Int) (s : Nm) (n : Int) (e : List Ex) (b c : List Sm) (g : Bool) (l : List Sm) (no : Int) (f : Flt) (last : Int) (f1 : Flt) (hr : exprsF (envOf (sc ++ [m])) op no 0 e 0 f = (last, f1)) :
    Sm.chks pr sc m (.mk op s n e b c g :: l) no f =
      Sm.chks pr sc (selfM sc m op s last) l (Sm.chks pr (sc ++ [selfM sc m op s last]) [] c (Sm.chks pr (sc ++ [selfM sc m op s last]) [] b (no + 1) (selfF pr sc m op s no last f1)).1 (Sm.chks pr (sc ++ [selfM sc m op s last]) [] b (no + 1) (selfF pr sc m op s no last f1)).2).1
        (Sm.chks pr (sc ++ [selfM sc m op s last]) [] c (Sm.chks pr (sc ++ [selfM sc m op s last]) [] b (no + 1) (selfF pr sc m op s no last f1)).1 (Sm.chks pr (sc ++ [selfM sc m op s last]) [] b (no + 1) (selfF pr sc m op s no last f1)).2).2 := by
  rw [Sm.chks, Sm.chk]
  simp only [hr]
  rfl
theorem Ck.put {H : Heap} {i pj : Nat} {pr : Mp} {q cap : Nat} {ids : List Nat} {sc : List Mp} {m : Mp} {no : Int} {f : Flt} (h : Ck H i pj pr (.mg 1 q 0 (sc ++ [m]).length cap) [q] ids (sc ++ [m]) no f) {tm : Nat} (ht : ids[sc.length]? = some tm) (m' : Mp) :
    Ck (H.set tm (some (mpc m'))) i pj pr (.mg 1 q 0 (sc ++ [m']).length cap) [q] ids (sc ++ [m']) no f := by
  obtain ⟨hc, hp, hne, hs⟩ := h
  have hmem := List.mem_of_getElem? ht
  rcases hs with ⟨hx, _⟩ | ⟨q', cap', cs, hx, hy, hS, hnd, hiq, hid, hpq, hpid, hqid⟩
  · simp at hx
  obtain ⟨rfl, rfl⟩ : q = q' ∧ cap = cap' := by simpa using hx
  have h1 : tm ≠ i := fun e => hid (e ▸ hmem)
  have h2 : tm ≠ pj := fun e => hpid (e ▸ hmem)
  have hl : (sc ++ [m']).length = (sc ++ [m]).length := by simp
  refine ⟨by rw [List.getElem?_set_ne h1, hl]; exact hc, by rw [List.getElem?_set_ne h2]; exact hp, hne, .inr ⟨q, cap, cs, rfl, rfl, hS.put ht (fun e => hqid (e ▸ hmem)) hnd m', hnd, hiq, hid, hpq, hpid, hqid⟩⟩
theorem ckBlock_loop (H : Heap) (i pj : Nat) (pr : Mp) (ow ids : List Nat) (sc : List Mp) (tm : Nat) (htm : ids[sc.length]? = some tm) (htn : H.length ≤ tm) (L : List Sm) (d : Nat) (hok : Sm.oks L d = true) (hszL : Sm.sizes L ≤ 50000) (hscl : sc.length + Sm.sizes L ≤ 50000)
    (no0 : Int) (hno0 : 0 ≤ no0) (hnoL : no0 + Sm.sizes L ≤ 1000000) (f0 : Flt)
    (hb : ∀ x ∈ L, ∀ b ∈ x.blocks, BlkOK b) (k : List Item) (Q : Option (V × Heap) → Prop)
    (hexit : ∀ φ' K q cap m, Fr.get φ' 0 = .ptr i 0 → Ck K i pj pr (.mg 1 q 0 (sc ++ [m]).length cap) [q] ids (sc ++ [m]) (Sm.chks pr.get sc [] L no0 f0).1 (Sm.chks pr.get sc [] L no0 f0).2 → Keeps H K i ow [q] → Q (M (eval tbl noExt) k φ' K)) :
    ∀ (l : List Sm) (j : Nat) (m : Mp) (no : Int) (f : Flt) (q cap : Nat) (K : Heap) (φ : Fr), L.drop j = l → Sm.chks pr.get sc [] L no0 f0 = Sm.chks pr.get sc m l no f → 0 ≤ no → no + Sm.sizes l ≤ 1000000 →
      Ck K i pj pr (.mg 1 q 0 (sc ++ [m]).length cap) [q] ids (sc ++ [m]) no f → Keeps H K i ow [q] →
      Fr.get φ 0 = .ptr i 0 → Fr.get φ 18 = .sl 7 (Sm.rows L) → Fr.get φ 19 = .int .i64 L.length → Fr.get φ 20 = .int .i64 j →
      Q (M (eval tbl noExt) (.code l_ptypes_checker_block_w_0 :: .blk 0 :: k) φ K) := by
  intro l
  induction l with
  | nil =>
    intro j m no f q cap K φ hd e1 hn1 hn2 hC hK h0 h18 h19 h20
    have hj : L.length ≤ j := by rw [← Nat.sub_eq_zero_iff_le, ← List.length_drop, hd]; rfl
    have hlt : ¬ ((j : Int) < L.length) := by omega
    rw [Sm.chks] at e1
    rw [e1] at hexit
    rw [l_ptypes_checker_block_w_0, M_loop, ← l_ptypes_checker_block_w_0]
    simp [b_ptypes_checker_block_w_0, h0, h18, h19, h20, hlt]
    refine hexit _ K q cap m ?_ hC hK
    simp [h0]
  | cons x l ih =>
    intro j m no f q cap K φ hd e1 hn1 hn2 hC hK h0 h18 h19 h20
    have hj : j < L.length := by
      have : (L.drop j).length = l.length + 1 := by rw [hd]; rfl
      rw [List.length_drop] at this; omega
    have hlt : (j : Int) < L.length := by omega
    have hLx : L[j]? = some x := by rw [← List.head?_drop, hd]; rfl
    have hmem : x ∈ L := List.mem_of_getElem? hLx
    have hd1 : L.drop (j + 1) = l := by rw [← List.tail_drop, hd]; rfl
    have hr : (Sm.rows L)[j]? = some x.cells := by rw [Sm.rows_eq, List.getElem?_map, hLx]; rfl
    have hr2 : ∀ h, (Sm.rows L)[j]'h = x.cells := fun h => by rw [List.getElem?_eq_getElem h] at hr; exact Option.some.inj hr
    have hrl : (Sm.rows L).length = L.length := by rw [Sm.rows_eq]; simp
    have hLl := Sm.sizes_ge L
    have hxs := Sm.sizes_mem hmem
    have hw : IntKind.i64.wrap ((j : Int) + 1) = ((j + 1 : Nat) : Int) := by rw [w64 (by omega) (by omega)]; rfl
    have hwn : IntKind.i64.wrap (no + 1) = no + 1 := by
      simp only [Sm.sizes] at hn2
      rw [w64 (by omega) (by omega)]
    have hxok : x.ok d = true := by rw [Sm.oks_all, List.all_eq_true] at hok; exact hok x hmem
    have hbx := hb x hmem
    have hi := hC.hi
    obtain ⟨op, s, n, e, b, c, g⟩ := x
    have hthin := Sm.ok_thin hxok
    obtain ⟨hokb, hokc⟩ := Sm.ok_in hxok
    have hbb := hbx b (by simp [Sm.blocks])
    have hbc := hbx c (by simp [Sm.blocks])
    have hel := Ex.sizes_ge e
    simp only [Sm.size] at hxs
    simp only [Sm.sizes, Sm.size] at hn2
    have hfb := Sm.flats_sizes b
    have hfc := Sm.flats_sizes c
    simp only [Sm.cells] at hr hr2
    have hlen : (sc ++ [m]).length = sc.length + 1 := by simp
    have hlenm : ∀ m' : Mp, (sc ++ [m']).length = sc.length + 1 := fun m' => by simp
    generalize hbox : ([.int .i64 op, .str s, .int .i64 n, .sl 4 (Ex.rows e), .sl 7 (Sm.rows b), .sl 7 (Sm.rows c), .bool g] : List V) = bx at hr hr2
    obtain ⟨_, _, _, hS0⟩ := id hC
    rcases hS0 with ⟨hx, _⟩ | ⟨q', cap', cs, hx, hy, hS, hnd, hiq, hid, hpq, hpid, hqid⟩
    · simp at hx
    obtain ⟨rfl, rfl⟩ : q = q' ∧ cap = cap' := by simpa using hx
    have hc0 := hC.c
    have hcap0 : ∀ (w : Int) (ff : Flt), Ck (K.set i (cOf (.mg 1 q 0 (sc ++ [m]).length cap) (.mptr pj) (.int .i64 w) ff) ++ [some bx]) i pj pr (.mg 1 q 0 (sc ++ [m]).length cap) [q] ids (sc ++ [m]) w ff := fun w ff => (hC.set w ff).more _
    have hkp0 : ∀ (w : Int) (ff : Flt), Keeps H (K.set i (cOf (.mg 1 q 0 (sc ++ [m]).length cap) (.mptr pj) (.int .i64 w) ff) ++ [some bx]) i ow [q] := fun w ff => (hK.set _).more _
    obtain ⟨Z, hZ⟩ : ∃ Z : Int → Flt → Heap, ∀ w ff, Z w ff = K.set i (some [.mg 1 q 0 (sc.length + 1) cap, .mptr pj, .int .i64 w, .int .i64 ff.1, .int .i64 ff.2]) ++ [some bx] := ⟨_, fun _ _ => rfl⟩
    have hZ' : ∀ w ff, Z w ff = K.set i (cOf (.mg 1 q 0 (sc ++ [m]).length cap) (.mptr pj) (.int .i64 w) ff) ++ [some bx] := fun w ff => by rw [hZ, hlen]; rfl
    have hZC : ∀ w ff, Ck (Z w ff) i pj pr (.mg 1 q 0 (sc ++ [m]).length cap) [q] ids (sc ++ [m]) w ff := fun w ff => by rw [hZ']; exact hcap0 w ff
    have hZK : ∀ w ff, Keeps H (Z w ff) i ow [q] := fun w ff => by rw [hZ']; exact hkp0 w ff
    have hZb : ∀ w ff, (Z w ff)[K.length]? = some (some bx) := fun w ff => by rw [hZ, List.getElem?_append_right (by simp)]; simp
    have hZs : ∀ w ff w' ff', (Z w ff).set i (cOf (.mg 1 q 0 (sc ++ [m]).length cap) (.mptr pj) (.int .i64 w') ff') = Z w' ff' := fun w ff w' ff' => by
      rw [hZ', hZ', List.set_append_left _ _ (by simpa using hi), List.set_set]
    have hZl : ∀ w ff, K.length < (Z w ff).length := fun w ff => by rw [hZ]; simp
    have hZS : ∀ w ff, Sc (Z w ff) q cap cs ids (sc ++ [m]) := fun w ff => by rw [hZ']; exact (hS.set hiq hid _).more _
    have gc : ∀ A : Heap, (K ++ A)[i]? = some (some [.mg 1 q 0 (sc ++ [m]).length cap, .mptr pj, .int .i64 no, .int .i64 f.1, .int .i64 f.2]) := fun A => getE_app hC.c A
    have gs : ∀ (A : Heap) v, (K ++ A).set i v = K.set i v ++ A := fun A v => List.set_append_left _ _ hi
    have hz1 : K.set i (some [.mg 1 q 0 (sc.length + 1) cap, .mptr pj, .int .i64 (no + 1), .int .i64 f.1, .int .i64 f.2]) ++ [some bx] = Z (no + 1) f := (hZ _ _).symm
    have hex := exprs_eq (Z (no + 1) f) i q cap cs ids (sc ++ [m]) (hZS _ _) (by rw [hlen]; omega) hiq hid _ _ f (hZC _ _).c op n s e b c g hthin (by omega) no
    simp only [Sm.cells, hbox, hZs] at hex
    have e2 := e1.trans (chks_cons pr.get sc m op s n e b c g l no f _ _ rfl)
    clear e1
    generalize (exprsF (envOf (sc ++ [m])) op no 0 e 0 f).1 = last at hex e2
    generalize (exprsF (envOf (sc ++ [m])) op no 0 e 0 f).2 = f1 at hex e2
    have fin : ∀ (K4 : Heap) (q4 cap4 : Nat) (m2 : Mp) (f2 : Flt), Ck K4 i pj pr (.mg 1 q4 0 (sc ++ [m2]).length cap4) [q4] ids (sc ++ [m2]) (no + 1) f2 → Keeps H K4 i ow [q4] → K4[K.length]? = some (some bx) →
        q4 ≠ K.length → 
        ∃ K5 K6 q6 cap6, eval tbl noExt (wNo n_ptypes_checker_block) [.ptr i 0, .sl 7 (Sm.rows b)] K4 = some (.tup [], K5) ∧ K5[K.length]? = some (some bx) ∧ eval tbl noExt (wNo n_ptypes_checker_block) [.ptr i 0, .sl 7 (Sm.rows c)] K5 = some (.tup [], K6) ∧
          Ck K6 i pj pr (.mg 1 q6 0 (sc ++ [m2]).length cap6) [q6] ids (sc ++ [m2]) (Sm.chks pr.get (sc ++ [m2]) [] c (Sm.chks pr.get (sc ++ [m2]) [] b (no + 1) f2).1 (Sm.chks pr.get (sc ++ [m2]) [] b (no + 1) f2).2).1
            (Sm.chks pr.get (sc ++ [m2]) [] c (Sm.chks pr.get (sc ++ [m2]) [] b (no + 1) f2).1 (Sm.chks pr.get (sc ++ [m2]) [] b (no + 1) f2).2).2 ∧ Keeps H K6 i ow [q6] := by
      intro K4 q4 cap4 m2 f2 hC4 hK4 hb4 hq4
      have hno1 := chks_no pr.get b (d + 1) (sc ++ [m2]) [] (no + 1) f2 hokb
      obtain ⟨K5, sv5, ow5, ev5, hC5, hK5⟩ := hbb K4 i pj pr _ _ ids (sc ++ [m2]) (no + 1) f2 hC4 (by rw [hlenm]; omega) (by omega) (by omega) _ (.inl rfl)
      obtain ⟨q5, cap5, rfl, rfl⟩ := hC5.mg
      obtain ⟨K6, sv6, ow6, ev6, hC6, hK6⟩ := hbc K5 i pj pr _ _ ids (sc ++ [m2]) _ _ hC5 (by rw [hlenm]; omega) (by rw [hno1]; omega) (by rw [hno1]; omega) _ (.inl rfl)
      obtain ⟨q6, cap6, rfl, rfl⟩ := hC6.mg
      have hK4l : K.length < K4.length := (List.getElem?_eq_some_iff.1 hb4).1
      refine ⟨K5, K6, q6, cap6, ev5, ?_, ev6, hC6, (hK4.trans hK5).trans hK6⟩
      rw [hK5.2.1 K.length hK4l (by omega) (by simp; omega), hb4]
    have hqK : q < K.length := (List.getElem?_eq_some_iff.1 hS.cells).1
    have hpC := fun w ff => (hZC w ff).p
    have hpc : ∀ w ff, (Z w ff)[i]? = some (some [.mg 1 q 0 (sc.length + 1) cap, .mptr pj, .int .i64 w, .int .i64 ff.1, .int .i64 ff.2]) := fun w ff => by
      have := (hZC w ff).c
      rw [hlen] at this
      exact this
    have hmo : ∀ w ff, mapOf (Z w ff) false [.str] (.mptr pj) = some (mks pr, mvs pr) := fun w ff => by simp [mapOf, hpC, mpc]
    have hkw := keyWell_str s
    have hlk := look_mp s pr
    subst hbox
    rw [l_ptypes_checker_block_w_0, M_loop, ← l_ptypes_checker_block_w_0]
    by_cases h12 : op = 12
    · have hm2 : selfM sc m op s last = m.put s last := by unfold selfM; rw [if_pos h12]
      have hf2 : selfF pr.get sc m op s no last f1 = if envOf (sc ++ [m]) s ≠ 0 ∧ envOf (sc ++ [m]) s ≠ last then failF f1 11 no else f1 := by unfold selfF; rw [if_pos h12]
      rw [hm2, hf2] at e2
      have hlet := let_eq (Z (no + 1) f1) i q cap cs ids sc m (hZS _ _) (by omega) hiq hid _ _ f1 (hZC _ _).c s last no tm htm
      rw [hZs] at hlet
      generalize (if envOf (sc ++ [m]) s ≠ 0 ∧ envOf (sc ++ [m]) s ≠ last then failF f1 11 no else f1) = f2 at hlet e2
      have htK : tm < K.length := (List.getElem?_eq_some_iff.1 (hS.maps _ _ m htm (by simp))).1
      have hC4 := (hZC (no + 1) f2).put htm (m.put s last)
      have hK4 := (hZK (no + 1) f2).new htn (some (mpc (m.put s last)))
      have hb4 : ((Z (no + 1) f2).set tm (some (mpc (m.put s last))))[K.length]? = some (some [.int .i64 op, .str s, .int .i64 n, .sl 4 (Ex.rows e), .sl 7 (Sm.rows b), .sl 7 (Sm.rows c), .bool g]) := by
        rw [List.getElem?_set_ne (by omega)]; exact hZb _ _
      generalize (Z (no + 1) f2).set tm (some (mpc (m.put s last))) = K4 at hlet hC4 hK4 hb4
      obtain ⟨K5, K6, q6, cap6, ev5, hb5, ev6, hC6, hK6⟩ := fin K4 q cap _ f2 hC4 hK4 hb4 (by omega)
      have hnc : (Sm.chks pr.get (sc ++ [m.put s last]) [] c (Sm.chks pr.get (sc ++ [m.put s last]) [] b (no + 1) f2).1 (Sm.chks pr.get (sc ++ [m.put s last]) [] b (no + 1) f2).2).1 = no + 1 + (Sm.flats b).length + (Sm.flats c).length := by
        rw [chks_no pr.get c (d + 1) _ _ _ _ hokc, chks_no pr.get b (d + 1) _ _ _ _ hokb]
      subst h12
      simp [b_ptypes_checker_block_w_0, h0, h18, h19, h20, hlt, hj, hr, hr2, hrl, hw, hwn, gc, gs, hz1, hex, hZb, hb4, hb5, ev5, ev6, hlet]
      refine ih (j + 1) (m.put s last) _ _ q6 cap6 K6 _ hd1 e2 (by rw [hnc]; omega) (by rw [hnc]; omega) hC6 hK6 ?_ ?_ ?_ ?_
      · simp [h0]
      · simp [h18]
      · simp [h19]
      · simp
    by_cases h15 : op = 15
    · have hm2 : selfM sc m op s last = m := by unfold selfM; rw [if_neg h12]
      by_cases hp0 : pr.get s = 0
      · have hf2 : selfF pr.get sc m op s no last f1 = failF f1 9 no := by unfold selfF; rw [if_neg h12, if_pos h15, if_pos hp0]
        rw [hm2, hf2] at e2
        obtain ⟨K5, K6, q6, cap6, ev5, hb5, ev6, hC6, hK6⟩ := fin _ q cap m (failF f1 9 no) (hZC (no + 1) _) (hZK _ _) (hZb _ _) (by omega)
        have hnc : (Sm.chks pr.get (sc ++ [m]) [] c (Sm.chks pr.get (sc ++ [m]) [] b (no + 1) (failF f1 9 no)).1 (Sm.chks pr.get (sc ++ [m]) [] b (no + 1) (failF f1 9 no)).2).1 = no + 1 + (Sm.flats b).length + (Sm.flats c).length := by
          rw [chks_no pr.get c (d + 1) _ _ _ _ hokc, chks_no pr.get b (d + 1) _ _ _ _ hokb]
        have hfl := fail_eq (hpc (no + 1) f1) 9 no
        rw [show (some [.mg 1 q 0 (sc.length + 1) cap, .mptr pj, .int .i64 (no + 1), .int .i64 (failF f1 9 no).1, .int .i64 (failF f1 9 no).2] : Option (List V)) = cOf (.mg 1 q 0 (sc ++ [m]).length cap) (.mptr pj) (.int .i64 (no + 1)) (failF f1 9 no) by rw [hlen]; rfl, hZs] at hfl
        rw [hp0] at hlk
        subst h15
        simp [b_ptypes_checker_block_w_0, h0, h18, h19, h20, hlt, hj, hr, hr2, hrl, hw, hwn, gc, gs, hz1, hex, hZb, hb5, ev5, ev6, hpc, hmo, hkw, hlk, keyOf, hfl]
        refine ih (j + 1) m _ _ q6 cap6 K6 _ hd1 e2 (by rw [hnc]; omega) (by rw [hnc]; omega) hC6 hK6 ?_ ?_ ?_ ?_
        · simp [h0]
        · simp [h18]
        · simp [h19]
        · simp
      · have hf2 : selfF pr.get sc m op s no last f1 = f1 := by unfold selfF; rw [if_neg h12, if_pos h15, if_neg hp0]
        rw [hm2, hf2] at e2
        obtain ⟨K5, K6, q6, cap6, ev5, hb5, ev6, hC6, hK6⟩ := fin _ q cap m f1 (hZC (no + 1) f1) (hZK _ _) (hZb _ _) (by omega)
        have hnc : (Sm.chks pr.get (sc ++ [m]) [] c (Sm.chks pr.get (sc ++ [m]) [] b (no + 1) f1).1 (Sm.chks pr.get (sc ++ [m]) [] b (no + 1) f1).2).1 = no + 1 + (Sm.flats b).length + (Sm.flats c).length := by
          rw [chks_no pr.get c (d + 1) _ _ _ _ hokc, chks_no pr.get b (d + 1) _ _ _ _ hokb]
        subst h15
        simp [b_ptypes_checker_block_w_0, h0, h18, h19, h20, hlt, hj, hr, hr2, hrl, hw, hwn, gc, gs, hz1, hex, hZb, hb5, ev5, ev6, hpc, hmo, hkw, hlk, keyOf, hp0]
        refine ih (j + 1) m _ _ q6 cap6 K6 _ hd1 e2 (by rw [hnc]; omega) (by rw [hnc]; omega) hC6 hK6 ?_ ?_ ?_ ?_
        · simp [h0]
        · simp [h18]
        · simp [h19]
        · simp
    · have hm2 : selfM sc m op s last = m := by unfold selfM; rw [if_neg h12]
      have hf2 : selfF pr.get sc m op s no last f1 = f1 := by unfold selfF; rw [if_neg h12, if_neg h15]
      rw [hm2, hf2] at e2
      obtain ⟨K5, K6, q6, cap6, ev5, hb5, ev6, hC6, hK6⟩ := fin _ q cap m f1 (hZC (no + 1) f1) (hZK _ _) (hZb _ _) (by omega)
      have hnc : (Sm.chks pr.get (sc ++ [m]) [] c (Sm.chks pr.get (sc ++ [m]) [] b (no + 1) f1).1 (Sm.chks pr.get (sc ++ [m]) [] b (no + 1) f1).2).1 = no + 1 + (Sm.flats b).length + (Sm.flats c).length := by
        rw [chks_no pr.get c (d + 1) _ _ _ _ hokc, chks_no pr.get b (d + 1) _ _ _ _ hokb]
      simp [b_ptypes_checker_block_w_0, h0, h18, h19, h20, hlt, hj, hr, hr2, hrl, hw, hwn, gc, gs, hz1, hex, hZb, hb5, ev5, ev6, h12, h15]
      refine ih (j + 1) m _ _ q6 cap6 K6 _ hd1 e2 (by rw [hnc]; omega) (by rw [hnc]; omega) hC6 hK6 ?_ ?_ ?_ ?_
      · simp [h0]
      · simp [h18]
      · simp [h19]
      · simp
theorem Ck.pop {K : Heap} {i pj : Nat} {pr : Mp} {q cap t : Nat} {ids : List Nat} {sc : List Mp} {m : Mp} {no : Int} {f : Flt} (h : Ck K i pj pr (.mg 1 q 0 (sc ++ [m]).length cap) [q] (ids ++ [t]) (sc ++ [m]) no f) (hl : ids.length = sc.length) :
    Ck (K.set i (cOf (.mg 1 q 0 sc.length cap) (.mptr pj) (.int .i64 no) f)) i pj pr (.mg 1 q 0 sc.length cap) [q] ids sc no f := by
  have hi := h.hi
  obtain ⟨hc, hp, hne, hs⟩ := h
  rcases hs with ⟨hx, _⟩ | ⟨q', cap', cs, hx, hy, hS, hnd, hiq, hid, hpq, hpid, hqid⟩
  · simp at hx
  obtain ⟨rfl, rfl⟩ : q = q' ∧ cap = cap' := by simpa using hx
  rw [List.mem_append, not_or] at hid hpid hqid
  have hS' := hS.set hiq (by rw [List.mem_append, not_or]; exact hid) (cOf (.mg 1 q 0 sc.length cap) (.mptr pj) (.int .i64 no) f)
  refine ⟨List.getElem?_set_self hi, by rw [List.getElem?_set_ne hne]; exact hp, hne, .inr ⟨q, cap, cs, rfl, rfl, ⟨hS'.cells, hS'.capc, ?_, hl, fun k j hk => ?_, fun k j n hk hn => ?_⟩, (List.nodup_append.1 hnd).1, hiq, hid.1, hpq, hpid.1, hqid.1⟩⟩
  · have := hS.lcap
    rw [List.length_append] at this; omega
  · exact hS.ptrs k j (getE_app hk _)
  · exact hS'.maps k j n (getE_app hk _) (getE_app hn _)
theorem ckBlock_step (l : List Sm) (d : Nat) (hok : Sm.oks l d = true) (hb : ∀ x ∈ l, ∀ b ∈ x.blocks, BlkOK b) : BlkOK l := by
  intro H i pj pr sv ow ids sc no f hC hsz hn1 hn2 av hav
  obtain ⟨q, cap, G, happ, hC1, hK1, hGi⟩ := push_app hC (by omega)
  have hc := hC.c
  have hi := hC.hi
  have hlids : ids.length = sc.length := by
    rcases hC.s with ⟨_, rfl, _, rfl⟩ | ⟨_, _, _, _, _, hS, _⟩
    · rfl
    · exact hS.lids
  have htm : (ids ++ [H.length])[sc.length]? = some H.length := by rw [← hlids]; simp
  have hrl : (Sm.rows l).length = l.length := by rw [Sm.rows_eq]; simp
  have gc0 : H[i]? = some (some [sv, .mptr pj, .int .i64 no, .int .i64 f.1, .int .i64 f.2]) := hc
  rw [hc] at hGi
  have hGi' : G[i]? = some (some [sv, .mptr pj, .int .i64 no, .int .i64 f.1, .int .i64 f.2]) := hGi
  have gG : ∀ h, G[i]'h = some [sv, .mptr pj, .int .i64 no, .int .i64 f.1, .int .i64 f.2] := fun h => by rw [List.getElem?_eq_getElem h] at hGi'; exact Option.some.inj hGi'
  have hiG : i < G.length := (List.getElem?_eq_some_iff.1 hGi').1
  have hw : IntKind.i64.wrap (((sc.length : Int) + 1) - 1) = sc.length := by rw [w64 (by omega) (by omega)]; omega
  have hw2 : IntKind.i64.wrap (sc.length : Int) = sc.length := by rw [w64 (by omega) (by omega)]
  have hle : (sc.length : Int) ≤ (sc.length : Int) + 1 := by omega
  obtain ⟨Q, hQ⟩ : ∃ Q : Option (V × Heap) → Prop, ∀ o, Q o ↔ ∃ H' sv' ow', o = some (.tup [], H') ∧ Ck H' i pj pr sv' ow' ids sc (Sm.chks pr.get sc [] l no f).1 (Sm.chks pr.get sc [] l no f).2 ∧ Keeps H H' i ow ow' := ⟨_, fun _ => Iff.rfl⟩
  rw [← hQ]
  have hexit : ∀ φ' K q cap m, Fr.get φ' 0 = .ptr i 0 → Ck K i pj pr (.mg 1 q 0 (sc ++ [m]).length cap) [q] (ids ++ [H.length]) (sc ++ [m]) (Sm.chks pr.get sc [] l no f).1 (Sm.chks pr.get sc [] l no f).2 → Keeps H K i ow [q] →
      Q (M (eval tbl noExt) [.code r_ptypes_checker_block_w_0, .wfn []] φ' K) := by
    intro φ' K q cap m h0 hCK hKK
    have hpop := hCK.pop hlids
    have hcK := hCK.c
    have hcap : sc.length ≤ cap := by
      rcases hCK.s with ⟨hx, _⟩ | ⟨q', cap', cs, hx, hy, hS, _⟩
      · simp at hx
      · obtain ⟨rfl, rfl⟩ : q = q' ∧ cap = cap' := by simpa using hx
        have := hS.lcap; rw [List.length_append] at this; omega
    have hcap' : (sc.length : Int) ≤ cap := by omega
    rw [show (sc ++ [m]).length = sc.length + 1 by simp] at hcK
    have hcK' : K[i]? = some (some [.mg 1 q 0 (sc.length + 1) cap, .mptr pj, .int .i64 (Sm.chks pr.get sc [] l no f).1, .int .i64 (Sm.chks pr.get sc [] l no f).2.1, .int .i64 (Sm.chks pr.get sc [] l no f).2.2]) := hcK
    have hKK' := hKK.set (cOf (.mg 1 q 0 sc.length cap) (.mptr pj) (.int .i64 (Sm.chks pr.get sc [] l no f).1) (Sm.chks pr.get sc [] l no f).2)
    simp only [cOf] at hpop hKK'
    simp [r_ptypes_checker_block_w_0, h0, hcK', hw, hw2, hle, hcap, hcap']
    rw [hQ]
    exact ⟨_, _, _, rfl, hpop, hKK'⟩
  have hgo := fun φ h0 h18 h19 h20 => ckBlock_loop H i pj pr ow (ids ++ [H.length]) sc H.length htm (Nat.le_refl _) l d hok (by omega) hsz no hn1 hn2 f hb [.code r_ptypes_checker_block_w_0, .wfn []] Q hexit l 0 [] no f q cap _ φ rfl rfl hn1 hn2 (by simpa using hC1) hK1 h0 h18 h19 h20
  simp only [cOf] at hgo
  clear hexit
  rcases hC.s with ⟨rfl, rfl, rfl, rfl⟩ | ⟨q0, cap0, cs0, rfl, rfl, hS, _⟩
  · rw [eval_W tw_ptypes_checker_block rfl]
    simp only [mpc, mks, mvs, List.map_nil, List.length_nil] at happ hgo
    rcases hav with rfl | rfl
    · simp [c_ptypes_checker_block_w, gc0, happ, hGi', hrl, gG, hiG]
      refine hgo _ ?_ ?_ ?_ ?_
      all_goals simp
    · simp [c_ptypes_checker_block_w, gc0, happ, hGi', hrl, gG, hiG]
      refine hgo _ ?_ ?_ ?_ ?_
      all_goals simp
  · rw [eval_W tw_ptypes_checker_block rfl]
    simp only [mpc, mks, mvs, List.map_nil] at happ hgo
    rcases hav with rfl | rfl
    · simp [c_ptypes_checker_block_w, gc0, happ, hGi', hrl, gG, hiG]
      refine hgo _ ?_ ?_ ?_ ?_
      all_goals simp
    · simp [c_ptypes_checker_block_w, gc0, happ, hGi', hrl, gG, hiG]
      refine hgo _ ?_ ?_ ?_ ?_
      all_goals simp
theorem ckBlock_ok : ∀ (n : Nat) (l : List Sm) (d : Nat), Sm.sizes l ≤ n → Sm.oks l d = true → BlkOK l := by
  intro n
  induction n with
  | zero =>
    intro l d hn hok
    cases l with
    | nil => exact ckBlock_step [] d hok (by simp)
    | cons x l => cases x; simp only [Sm.sizes, Sm.size] at hn; omega
  | succ n ih =>
    intro l d hn hok
    refine ckBlock_step l d hok fun x hx b hb => ?_
    have hxs := Sm.sizes_mem hx
    have hxok : x.ok d = true := by rw [Sm.oks_all, List.all_eq_true] at hok; exact hok x hx
    obtain ⟨op, s, m, e, b1, b2, g⟩ := x
    obtain ⟨h1, h2⟩ := Sm.ok_in hxok
    simp only [Sm.size] at hxs
    simp only [Sm.blocks, List.mem_cons, List.not_mem_nil, or_false] at hb
    rcases hb with rfl | rfl
    · exact ih _ _ (by omega) h1
    · exact ih _ _ (by omega) h2
end Go.AM.Spec
namespace Go.AM.Spec
set_option linter.unusedVariables false
set_option linter.unusedSimpArgs false
set_option maxHeartbeats 4000000
set_option maxRecDepth 10000
theorem Ck.procs {K : Heap} {i pj : Nat} {pr : Mp} {sv : V} {ow ids : List Nat} {sc : List Mp} {no : Int} {f : Flt} (h : Ck K i pj pr sv ow ids sc no f) (pr' : Mp) : Ck (K.set pj (some (mpc pr'))) i pj pr' sv ow ids sc no f := by
  have hpj : pj < K.length := (List.getElem?_eq_some_iff.1 h.p).1
  obtain ⟨hc, hp, hne, hs⟩ := h
  refine ⟨by rw [List.getElem?_set_ne (Ne.symm hne)]; exact hc, List.getElem?_set_self hpj, hne, ?_⟩
  rcases hs with hs | ⟨q, cap, cs, h1, h2, hS, hnd, hiq, hid, hpq, hpid, hqid⟩
  · exact .inl hs
  · exact .inr ⟨q, cap, cs, h1, h2, hS.set hpq hpid _, hnd, hiq, hid, hpq, hpid, hqid⟩
def psz (l : List (Nm × List Sm)) : Nat := (l.map fun x => 1 + Sm.sizes x.2).sum
theorem procs_loop (B : Heap) (i pj : Nat) (hpj : B.length ≤ pj) (P : List (Nm × List Sm)) (hP : ∀ x ∈ P, Sm.oks x.2 1 = true) (hPl : P.length ≤ 20000) (v1 v2 : V) (hv1 : v1.plain = true ∨ True) (k : List Item) (Q : Option (V × Heap) → Prop) (p1 p2 : Nat)
    (hexit : ∀ φ' K sv ow, Fr.get φ' 1 = .ptr p1 0 → Fr.get φ' 2 = .ptr p2 0 → Fr.get φ' 3 = .ptr i 0 → Ck K i pj (procsF P [] 0 (0, 0)).1 sv ow [] [] (procsF P [] 0 (0, 0)).2.1 (procsF P [] 0 (0, 0)).2.2 → Keeps B K i [] ow →
      0 ≤ (procsF P [] 0 (0, 0)).2.1 → (procsF P [] 0 (0, 0)).2.1 ≤ 40000 → Q (M (eval tbl noExt) k φ' K)) :
    ∀ (l : List (Nm × List Sm)) (j : Nat) (pr : Mp) (no : Int) (f : Flt) (sv : V) (ow : List Nat) (K : Heap) (φ : Fr), P.drop j = l → procsF P [] 0 (0, 0) = procsF l pr no f → 0 ≤ no → no + psz l ≤ 40000 → (∀ s, 0 ≤ pr.get s ∧ pr.get s ≤ j) →
      Ck K i pj pr sv ow [] [] no f → Keeps B K i [] ow →
      Fr.get φ 1 = .ptr p1 0 → Fr.get φ 2 = .ptr p2 0 → Fr.get φ 3 = .ptr i 0 → Fr.get φ 17 = .sl 2 (P.map fun x => [.str x.1, .sl 7 (Sm.rows x.2)]) → Fr.get φ 18 = .int .i64 P.length → Fr.get φ 19 = .int .i64 j →
      Q (M (eval tbl noExt) (.code l_types_Check_w_0 :: .blk 0 :: k) φ K) := by
  intro l
  induction l with
  | nil =>
    intro j pr no f sv ow K φ hd e1 hn1 hn2 hpr hC hK h1 h2 h3 h17 h18 h19
    have hj : P.length ≤ j := by rw [← Nat.sub_eq_zero_iff_le, ← List.length_drop, hd]; rfl
    have hlt : ¬ ((j : Int) < P.length) := by omega
    rw [procsF] at e1
    rw [e1] at hexit
    rw [l_types_Check_w_0, M_loop, ← l_types_Check_w_0]
    simp [b_types_Check_w_0, h1, h2, h3, h17, h18, h19, hlt]
    refine hexit _ K sv ow ?_ ?_ ?_ hC hK hn1 (by simp only [psz, List.map_nil, List.sum_nil] at hn2; simp only; omega)
    · simp [h1]
    · simp [h2]
    · simp [h3]
  | cons x l ih =>
    intro j pr no f sv ow K φ hd e1 hn1 hn2 hpr hC hK h1 h2 h3 h17 h18 h19
    have hj : j < P.length := by
      have : (P.drop j).length = l.length + 1 := by rw [hd]; rfl
      rw [List.length_drop] at this; omega
    have hlt : (j : Int) < P.length := by omega
    have hLx : P[j]? = some x := by rw [← List.head?_drop, hd]; rfl
    have hmem : x ∈ P := List.mem_of_getElem? hLx
    have hd1 : P.drop (j + 1) = l := by rw [← List.tail_drop, hd]; rfl
    have hw : IntKind.i64.wrap ((j : Int) + 1) = ((j + 1 : Nat) : Int) := by rw [w64 (by omega) (by omega)]; rfl
    have hxok := hP x hmem
    obtain ⟨nm, body⟩ := x
    have hr : (P.map fun x => [V.str x.1, .sl 7 (Sm.rows x.2)])[j]? = some [.str nm, .sl 7 (Sm.rows body)] := by rw [List.getElem?_map, hLx]; rfl
    have hr2 : ∀ h, P[j]'h = (nm, body) := fun h => by rw [List.getElem?_eq_getElem h] at hLx; exact Option.some.inj hLx
    have hprn := hpr nm
    have hfb := Sm.flats_sizes body
    simp only [psz, List.map_cons, List.sum_cons] at hn2
    have hi := hC.hi
    generalize hbx : ([.str nm, .sl 7 (Sm.rows body)] : List V) = bx
    have hKC := hC.more [some bx]
    have hKK := hK.more [some bx]
    have hKb : (K ++ [some bx])[K.length]? = some (some bx) := by simp
    obtain ⟨f1, hf1⟩ : ∃ f1 : Flt, f1 = if 0 < pr.get nm then failF f 9 no else f := ⟨_, rfl⟩
    have e2 : procsF P [] 0 (0, 0) = procsF l (pr.put nm (pr.get nm + 1)) (Sm.chks pr.get [] [] body no f1).1 (Sm.chks pr.get [] [] body no f1).2 := by
      rw [e1, procsF, ← hf1]
    clear e1
    have hnoc := chks_no pr.get body 1 [] [] no f1 hxok
    have fin : ∀ Z : Heap, Ck Z i pj pr sv ow [] [] no f1 → Keeps B Z i [] ow → Z[K.length]? = some (some bx) → K.length ∉ ow → K.length ≠ i →
        ∃ K5 sv5 ow5, eval tbl noExt (wNo n_ptypes_checker_block) [.ptr i 0, .sl 7 (Sm.rows body)] Z = some (.tup [], K5) ∧ K5[i]? = some (cOf sv5 (.mptr pj) (.int .i64 (Sm.chks pr.get [] [] body no f1).1) (Sm.chks pr.get [] [] body no f1).2) ∧
          K5[K.length]? = some (some bx) ∧ mapOf K5 false [.str] (.mptr pj) = some (mks pr, mvs pr) ∧ mapPut K5 false [.str] (.mptr pj) [.str nm] (.int .i64 (pr.get nm + 1)) = some (K5.set pj (some (mpc (pr.put nm (pr.get nm + 1))))) ∧
          Ck (K5.set pj (some (mpc (pr.put nm (pr.get nm + 1))))) i pj (pr.put nm (pr.get nm + 1)) sv5 ow5 [] [] (Sm.chks pr.get [] [] body no f1).1 (Sm.chks pr.get [] [] body no f1).2 ∧ Keeps B (K5.set pj (some (mpc (pr.put nm (pr.get nm + 1))))) i [] ow5 := by
      intro Z hZC hZK hZb hZo hZi
      obtain ⟨K5, sv5, ow5, ev, hC5, hK5⟩ := ckBlock_ok _ body 1 (Nat.le_refl _) hxok Z i pj pr sv ow [] [] no f1 hZC (by simp; omega) hn1 (by omega) _ (.inl rfl)
      have hZl : K.length < Z.length := (List.getElem?_eq_some_iff.1 hZb).1
      have hmo : mapOf K5 false [.str] (.mptr pj) = some (mks pr, mvs pr) := by simp [mapOf, hC5.p, mpc]
      refine ⟨K5, sv5, ow5, ev, hC5.c, ?_, hmo, ?_, hC5.procs _, (hZK.trans hK5).new hpj _⟩
      · rw [hK5.2.1 K.length hZl hZi hZo, hZb]
      · have h2 := put_mp nm (pr.get nm + 1) pr
        simp [mapPut, hmo, h2, mpc, keyWell_str]
    have hKo : K.length ∉ ow := by
      rcases hC.s with ⟨_, _, h, _⟩ | ⟨q, _, _, _, h, hS, _⟩
      · rw [h]; simp
      · rw [h]
        have : q < K.length := (List.getElem?_eq_some_iff.1 hS.cells).1
        simp; omega
    have hKi : K.length ≠ i := by omega
    have gc : (K ++ [some bx])[i]? = some (some [sv, .mptr pj, .int .i64 no, .int .i64 f.1, .int .i64 f.2]) := hKC.c
    have hmo : mapOf (K ++ [some bx]) false [.str] (.mptr pj) = some (mks pr, mvs pr) := by simp [mapOf, hKC.p, mpc]
    have hkw := keyWell_str nm
    have hlk := look_mp nm pr
    have hwp : IntKind.i64.wrap (pr.get nm + 1) = pr.get nm + 1 := by rw [w64 (by omega) (by omega)]
    have hpr' : ∀ s, 0 ≤ (pr.put nm (pr.get nm + 1)).get s ∧ (pr.put nm (pr.get nm + 1)).get s ≤ ((j + 1 : Nat) : Int) := fun s => by
      rw [Mp.get_put]
      have := hpr s
      split
      · omega
      · omega
    rw [l_types_Check_w_0, M_loop, ← l_types_Check_w_0]
    by_cases hpos : 0 < pr.get nm
    · rw [if_pos hpos] at hf1
      have hfl := fail_eq gc 9 no
      have hZC := hKC.set no (failF f 9 no)
      have hZK := hKK.set (cOf sv (.mptr pj) (.int .i64 no) (failF f 9 no))
      have hZb : ((K ++ [some bx]).set i (cOf sv (.mptr pj) (.int .i64 no) (failF f 9 no)))[K.length]? = some (some bx) := by rw [List.getElem?_set_ne (by omega)]; exact hKb
      rw [show (some [sv, .mptr pj, .int .i64 no, .int .i64 (failF f 9 no).1, .int .i64 (failF f 9 no).2] : Option (List V)) = cOf sv (.mptr pj) (.int .i64 no) (failF f 9 no) from rfl] at hfl
      rw [← hf1] at hfl hZC hZK hZb
      generalize (K ++ [some bx]).set i (cOf sv (.mptr pj) (.int .i64 no) f1) = Z at hfl hZC hZK hZb
      obtain ⟨K5, sv5, ow5, ev, hc5, hb5, hmo5, hmp5, hC5, hK5⟩ := fin Z hZC hZK hZb hKo hKi
      have hc5' : K5[i]? = some (some [sv5, .mptr pj, .int .i64 (Sm.chks pr.get [] [] body no f1).1, .int .i64 (Sm.chks pr.get [] [] body no f1).2.1, .int .i64 (Sm.chks pr.get [] [] body no f1).2.2]) := hc5
      subst hbx
      simp [b_types_Check_w_0, h1, h2, h3, h17, h18, h19, hlt, hj, hr, hr2, hw, gc, hmo, hkw, hlk, keyOf, hpos, hfl, hZb, ev, hc5', hb5, hmo5, hwp, hmp5]
      refine ih (j + 1) _ _ _ sv5 ow5 _ _ hd1 e2 (by rw [hnoc]; omega) (by rw [hnoc]; simp only [psz]; omega) hpr' hC5 hK5 ?_ ?_ ?_ ?_ ?_ ?_
      · simp [h1]
      · simp [h2]
      · simp [h3]
      · simp [h17]
      · simp [h18]
      · simp
    · rw [if_neg hpos] at hf1
      subst hf1
      obtain ⟨K5, sv5, ow5, ev, hc5, hb5, hmo5, hmp5, hC5, hK5⟩ := fin _ hKC hKK hKb hKo hKi
      have hc5' : K5[i]? = some (some [sv5, .mptr pj, .int .i64 (Sm.chks pr.get [] [] body no f1).1, .int .i64 (Sm.chks pr.get [] [] body no f1).2.1, .int .i64 (Sm.chks pr.get [] [] body no f1).2.2]) := hc5
      subst hbx
      simp [b_types_Check_w_0, h1, h2, h3, h17, h18, h19, hlt, hj, hr, hr2, hw, gc, hmo, hkw, hlk, keyOf, hpos, ev, hc5', hb5, hmo5, hwp, hmp5]
      refine ih (j + 1) _ _ _ sv5 ow5 _ _ hd1 e2 (by rw [hnoc]; omega) (by rw [hnoc]; simp only [psz]; omega) hpr' hC5 hK5 ?_ ?_ ?_ ?_ ?_ ?_
      · simp [h1]
      · simp [h2]
      · simp [h3]
      · simp [h17]
      · simp [h18]
      · simp
def osz (l : List (Nm × Ex)) : Nat := (l.map fun x => 1 + x.2.size).sum
theorem assert_cells (e : Ex) : (assertOf e).cells = [.int .i64 18, .str [], .int .i64 0, .sl 4 [e.cells], .sl 7 [], .sl 7 [], .bool false] := by
  simp [assertOf, Sm.cells, Ex.rows, Sm.rows]
theorem assert_ok {e : Ex} (h : e.ok 8 = true) : Sm.oks [assertOf e] 1 = true := by
  simp [Sm.oks, assertOf, Sm.ok, shapeOk, exprs, txnOk, Ex.oks, h]
theorem oracles_loop (B : Heap) (i pj om : Nat) (hom : B.length ≤ om) (homi : om ≠ i) (homp : om ≠ pj) (pr : Mp) (P : List (Nm × Ex)) (hP : ∀ x ∈ P, x.2.ok 8 = true) (hPs : ∀ x ∈ P, x.2.size ≤ 20000) (hPl : P.length ≤ 20000) (no0 : Int) (f0 : Flt) (k : List Item) (Q : Option (V × Heap) → Prop) (p2 : Nat)
    (hexit : ∀ φ' K sv ow, Fr.get φ' 2 = .ptr p2 0 → Fr.get φ' 3 = .ptr i 0 → Ck K i pj pr sv ow [] [] (oraclesF pr.get P [] no0 f0).1 (oraclesF pr.get P [] no0 f0).2 → Keeps B K i [] ow → Q (M (eval tbl noExt) k φ' K)) :
    ∀ (l : List (Nm × Ex)) (j : Nat) (os : Mp) (no : Int) (f : Flt) (sv : V) (ow : List Nat) (K : Heap) (φ : Fr), P.drop j = l → oraclesF pr.get P [] no0 f0 = oraclesF pr.get l os no f → 0 ≤ no → no + osz l ≤ 100000 → (∀ s, 0 ≤ os.get s ∧ os.get s ≤ j) →
      Ck K i pj pr sv ow [] [] no f → Keeps B K i [] ow → K[om]? = some (some (mpc os)) → om ∉ ow →
      Fr.get φ 2 = .ptr p2 0 → Fr.get φ 3 = .ptr i 0 → Fr.get φ 6 = .mptr om → Fr.get φ 60 = .sl 5 (P.map fun x => .str x.1 :: x.2.cells) → Fr.get φ 61 = .int .i64 P.length → Fr.get φ 62 = .int .i64 j →
      Q (M (eval tbl noExt) (.code l_types_Check_w_1 :: .blk 2 :: k) φ K) := by
  intro l
  induction l with
  | nil =>
    intro j os no f sv ow K φ hd e1 hn1 hn2 hos hC hK hKo hoo h2 h3 h6 h60 h61 h62
    have hj : P.length ≤ j := by rw [← Nat.sub_eq_zero_iff_le, ← List.length_drop, hd]; rfl
    have hlt : ¬ ((j : Int) < P.length) := by omega
    rw [oraclesF] at e1
    rw [e1] at hexit
    rw [l_types_Check_w_1, M_loop, ← l_types_Check_w_1]
    simp [b_types_Check_w_1, h2, h3, h6, h60, h61, h62, hlt]
    refine hexit _ K sv ow ?_ ?_ hC hK
    · simp [h2]
    · simp [h3]
  | cons x l ih =>
    intro j os no f sv ow K φ hd e1 hn1 hn2 hos hC hK hKo hoo h2 h3 h6 h60 h61 h62
    have hj : j < P.length := by
      have : (P.drop j).length = l.length + 1 := by rw [hd]; rfl
      rw [List.length_drop] at this; omega
    have hlt : (j : Int) < P.length := by omega
    have hLx : P[j]? = some x := by rw [← List.head?_drop, hd]; rfl
    have hmem : x ∈ P := List.mem_of_getElem? hLx
    have hd1 : P.drop (j + 1) = l := by rw [← List.tail_drop, hd]; rfl
    have hw : IntKind.i64.wrap ((j : Int) + 1) = ((j + 1 : Nat) : Int) := by rw [w64 (by omega) (by omega)]; rfl
    have hxok := hP x hmem
    obtain ⟨nm, e⟩ := x
    have hr2 : ∀ h, P[j]'h = (nm, e) := fun h => by rw [List.getElem?_eq_getElem h] at hLx; exact Option.some.inj hLx
    have hosn := hos nm
    have hesz := hPs _ hmem
    simp only at hesz
    simp only [osz, List.map_cons, List.sum_cons] at hn2
    have hi := hC.hi
    have hao := assert_ok hxok
    have hasz : Sm.sizes [assertOf e] ≤ 1 + e.size := by simp [Sm.sizes, assertOf, Sm.size, Ex.sizes]
    have hafl : (Sm.flats [assertOf e]).length = 1 := by simp [Sm.flats, assertOf, Sm.flat]
    have hac := assert_cells e
    obtain ⟨f1, hf1⟩ : ∃ f1 : Flt, f1 = if 1 < os.get nm + 1 then failF f 9 no else f := ⟨_, rfl⟩
    have e2 : oraclesF pr.get P [] no0 f0 = oraclesF pr.get l (os.put nm (os.get nm + 1)) (Sm.chks pr.get [] [] [assertOf e] no f1).1 (Sm.chks pr.get [] [] [assertOf e] no f1).2 := by
      rw [e1, oraclesF, ← hf1]
    clear e1
    have hnoc := chks_no pr.get [assertOf e] 1 [] [] no f1 hao
    have hrows : Sm.rows [assertOf e] = [[.int .i64 18, .str [], .int .i64 0, .sl 4 [e.cells], .sl 7 [], .sl 7 [], .bool false]] := by rw [Sm.rows_eq]; simp [hac]
    obtain ⟨op, n, s, y⟩ := e
    simp only [Ex.cells] at hrows
    generalize hbx : ([.str nm, .int .i64 op, .int .i64 n, .str s, .sl 4 (Ex.rows y)] : List V) = bx
    have homl : om < K.length := (List.getElem?_eq_some_iff.1 hKo).1
    have hput := put_mp nm (os.get nm + 1) os
    have hKi : K.length ≠ i := by omega
    obtain ⟨K2, hK2⟩ : ∃ K2 : Heap, K2 = (K ++ [some bx]).set om (some (mpc (os.put nm (os.get nm + 1)))) := ⟨_, rfl⟩
    have hmo1 : mapOf (K ++ [some bx]) false [.str] (.mptr om) = some (mks os, mvs os) := by simp [mapOf, getE_app hKo, mpc]
    have hmp1 : mapPut (K ++ [some bx]) false [.str] (.mptr om) [.str nm] (.int .i64 (os.get nm + 1)) = some K2 := by
      simp [mapPut, hmo1, hput, mpc, keyWell_str, hK2]
    have hK2o : K2[om]? = some (some (mpc (os.put nm (os.get nm + 1)))) := by rw [hK2, List.getElem?_set_self (by simp; omega)]
    have hmo2 : mapOf K2 false [.str] (.mptr om) = some (mks (os.put nm (os.get nm + 1)), mvs (os.put nm (os.get nm + 1))) := by simp [mapOf, hK2o, mpc]
    have hlk2 := look_mp nm (os.put nm (os.get nm + 1))
    rw [Mp.get_put, if_pos rfl] at hlk2
    have hK2C : Ck K2 i pj pr sv ow [] [] no f := by
      rw [hK2]
      obtain ⟨hc, hp, hne, hs⟩ := hC.more [some bx]
      refine ⟨by rw [List.getElem?_set_ne homi]; exact hc, by rw [List.getElem?_set_ne homp]; exact hp, hne, ?_⟩
      rcases hs with hs | ⟨q, cap, cs, a1, a2, hS, hr⟩
      · exact .inl hs
      · refine .inr ⟨q, cap, cs, a1, a2, hS.set (fun h => hoo (by rw [a2, ← h]; simp)) (by simp) _, hr⟩
    have hK2K : Keeps B K2 i [] ow := by rw [hK2]; exact (hK.more _).new hom _
    have hK2b : K2[K.length]? = some (some bx) := by rw [hK2, List.getElem?_set_ne (by omega)]; simp
    have hKo' : K.length ∉ ow := by
      rcases hC.s with ⟨_, _, h, _⟩ | ⟨q, _, _, _, h, hS, _⟩
      · rw [h]; simp
      · rw [h]
        have : q < K.length := (List.getElem?_eq_some_iff.1 hS.cells).1
        simp; omega
    have fin : ∀ Z : Heap, Ck Z i pj pr sv ow [] [] no f1 → Keeps B Z i [] ow → Z[om]? = some (some (mpc (os.put nm (os.get nm + 1)))) → Z[K.length]? = some (some bx) →
        ∃ K5 sv5 ow5, eval tbl noExt (wNo n_ptypes_checker_block) [.ptr i 0, .own 7 (Sm.rows [assertOf (.mk op n s y)])] Z = some (.tup [], K5) ∧ Ck K5 i pj pr sv5 ow5 [] [] (Sm.chks pr.get [] [] [assertOf (.mk op n s y)] no f1).1 (Sm.chks pr.get [] [] [assertOf (.mk op n s y)] no f1).2 ∧ Keeps B K5 i [] ow5 ∧
          K5[om]? = some (some (mpc (os.put nm (os.get nm + 1)))) ∧ om ∉ ow5 := by
      intro Z hZC hZK hZo hZb
      obtain ⟨K5, sv5, ow5, ev, hC5, hK5⟩ := ckBlock_ok _ [assertOf (.mk op n s y)] 1 (Nat.le_refl _) hao Z i pj pr sv ow [] [] no f1 hZC (by simp; omega) hn1 (by omega) _ (.inr rfl)
      have hZl : om < Z.length := (List.getElem?_eq_some_iff.1 hZo).1
      exact ⟨K5, sv5, ow5, ev, hC5, hZK.trans hK5, by rw [hK5.2.1 om hZl homi hoo, hZo], fun h => (hK5.2.2 om h).elim hoo (fun h => by omega)⟩
    rw [hrows] at fin
    have gc : K2[i]? = some (some [sv, .mptr pj, .int .i64 no, .int .i64 f.1, .int .i64 f.2]) := hK2C.c
    have hkw := keyWell_str nm
    have hlk := look_mp nm os
    have hwp : IntKind.i64.wrap (os.get nm + 1) = os.get nm + 1 := by rw [w64 (by omega) (by omega)]
    have hos' : ∀ s, 0 ≤ (os.put nm (os.get nm + 1)).get s ∧ (os.put nm (os.get nm + 1)).get s ≤ ((j + 1 : Nat) : Int) := fun s => by
      rw [Mp.get_put]
      have := hos s
      split
      · omega
      · omega
    rw [l_types_Check_w_1, M_loop, ← l_types_Check_w_1]
    by_cases hpos : 1 < os.get nm + 1
    · rw [if_pos hpos] at hf1
      have hpos' : 0 < os.get nm := by omega
      have hfl := fail_eq gc 9 no
      have hZC := hK2C.set no (failF f 9 no)
      have hZK := hK2K.set (cOf sv (.mptr pj) (.int .i64 no) (failF f 9 no))
      have hZo : (K2.set i (cOf sv (.mptr pj) (.int .i64 no) (failF f 9 no)))[om]? = some (some (mpc (os.put nm (os.get nm + 1)))) := by rw [List.getElem?_set_ne (Ne.symm homi)]; exact hK2o
      have hZb : (K2.set i (cOf sv (.mptr pj) (.int .i64 no) (failF f 9 no)))[K.length]? = some (some bx) := by rw [List.getElem?_set_ne (by omega)]; exact hK2b
      rw [show (some [sv, .mptr pj, .int .i64 no, .int .i64 (failF f 9 no).1, .int .i64 (failF f 9 no).2] : Option (List V)) = cOf sv (.mptr pj) (.int .i64 no) (failF f 9 no) from rfl] at hfl
      rw [← hf1] at hfl hZC hZK hZb hZo
      generalize K2.set i (cOf sv (.mptr pj) (.int .i64 no) f1) = Z at hfl hZC hZK hZb hZo
      obtain ⟨K5, sv5, ow5, ev, hC5, hK5, ho5, hoo5⟩ := fin Z hZC hZK hZo hZb
      clear hK2
      subst hbx
      simp [b_types_Check_w_1, h2, h3, h6, h60, h61, h62, hlt, hj, hr2, hw, gc, hmo1, hmo2, hkw, hlk, hlk2, hmp1, hwp, keyOf, hpos, hpos', hfl, hZb, ev, Ex.cells, hK2b]
      refine ih (j + 1) _ _ _ sv5 ow5 _ _ hd1 e2 (by rw [hnoc, hafl]; omega) (by rw [hnoc, hafl]; simp only [osz]; omega) hos' hC5 hK5 ho5 hoo5 ?_ ?_ ?_ ?_ ?_ ?_
      · simp [h2]
      · simp [h3]
      · simp [h6]
      · simp [h60]
      · simp [h61]
      · simp
    · rw [if_neg hpos] at hf1
      have hpos' : ¬ 0 < os.get nm := by omega
      subst hf1
      obtain ⟨K5, sv5, ow5, ev, hC5, hK5, ho5, hoo5⟩ := fin _ hK2C hK2K hK2o hK2b
      clear hK2
      subst hbx
      simp [b_types_Check_w_1, h2, h3, h6, h60, h61, h62, hlt, hj, hr2, hw, gc, hmo1, hmo2, hkw, hlk, hlk2, hmp1, hwp, keyOf, hpos, hpos', ev, Ex.cells, hK2b]
      refine ih (j + 1) _ _ _ sv5 ow5 _ _ hd1 e2 (by rw [hnoc, hafl]; omega) (by rw [hnoc, hafl]; simp only [osz]; omega) hos' hC5 hK5 ho5 hoo5 ?_ ?_ ?_ ?_ ?_ ?_
      · simp [h2]
      · simp [h3]
      · simp [h6]
      · simp [h60]
      · simp [h61]
      · simp
theorem Pg.ok_parts {p : Pg} (h : p.ok = true) : (∀ x ∈ p.procs, Sm.oks x.2 1 = true) ∧ (∀ x ∈ p.oracles, x.2.ok 8 = true) ∧ Sm.oks p.main 1 = true ∧ Sm.oks p.recover 1 = true := by
  simp only [Pg.ok, Bool.and_eq_true, List.all_eq_true] at h
  obtain ⟨_, _, _, h4, h5, h6, h7⟩ := h
  exact ⟨fun x hx => (h4 x hx).2, fun x hx => (h5 x hx).2, h6, h7⟩
theorem osz_mem {l : List (Nm × Ex)} {x : Nm × Ex} (h : x ∈ l) : x.2.size ≤ osz l := by
  induction l with
  | nil => simp at h
  | cons y l ih =>
    simp only [osz, List.map_cons, List.sum_cons] at ih ⊢
    rcases List.mem_cons.1 h with rfl | h
    · omega
    · have := ih h; omega
theorem Check_eq (p : Pg) (h : p.Fine) : ∃ H', eval tbl noExt (wNo n_types_Check) [.agg p.cells] [] = some (.agg [.int .i64 p.chk.1, .int .i64 p.chk.2], H') := by
  have hR := Right_eq p h []
  have hl := p.lens h.size
  have hsz := h.size
  obtain ⟨Q, hQ⟩ : ∃ Q : Option (V × Heap) → Prop, ∀ o, Q o ↔ ∃ H', o = some (.agg [.int .i64 p.chk.1, .int .i64 p.chk.2], H') := ⟨_, fun _ => Iff.rfl⟩
  rw [← hQ, eval_W tw_types_Check rfl]
  simp only [Pg.cells] at hR ⊢
  cases hok : p.ok with
  | false =>
    rw [hok] at hR
    simp [c_types_Check_w, hR]
    rw [hQ]
    exact ⟨_, by simp [Pg.chk, hok]; rfl⟩
  | true =>
    rw [hok] at hR
    obtain ⟨hp1, hp2, hp3, hp4⟩ := p.ok_parts hok
    have hpl := p.pcells_len
    have hol := p.ocells_len
    have hps : psz p.procs = p.psize := rfl
    have hos : osz p.oracles = p.osize := rfl
    have hsize : p.size = p.psize + Sm.sizes p.main + Sm.sizes p.recover + p.osize := rfl
    generalize hB : ([some [.sl 2 p.pcells, .sl 7 (Sm.rows p.main), .sl 7 (Sm.rows p.recover), .sl 5 p.ocells], some [.int .i64 0, .int .i64 0]] : Heap) = B
    have hBl : B.length = 2 := by rw [← hB]; rfl
    have hB0 : B[0]? = some (some [.sl 2 p.pcells, .sl 7 (Sm.rows p.main), .sl 7 (Sm.rows p.recover), .sl 5 p.ocells]) := by rw [← hB]; rfl
    have hB1 : B[1]? = some (some [.int .i64 0, .int .i64 0]) := by rw [← hB]; rfl
    have hexit : ∀ φ' K sv ow, Fr.get φ' 1 = .ptr 0 0 → Fr.get φ' 2 = .ptr 1 0 → Fr.get φ' 3 = .ptr 3 0 → Ck K 3 2 (procsF p.procs [] 0 (0, 0)).1 sv ow [] [] (procsF p.procs [] 0 (0, 0)).2.1 (procsF p.procs [] 0 (0, 0)).2.2 → Keeps B K 3 [] ow →
      0 ≤ (procsF p.procs [] 0 (0, 0)).2.1 → (procsF p.procs [] 0 (0, 0)).2.1 ≤ 40000 → Q (M (eval tbl noExt) [.code r_types_Check_w_1, .wfn [.cell 2 (some 2)]] φ' K) := by
      intro φ' K sv ow h1 h2 h3 hC hK hn1 hn2
      have hchk : p.chkF = (oraclesF (procsF p.procs [] 0 (0, 0)).1.get p.oracles [] (Sm.chks (procsF p.procs [] 0 (0, 0)).1.get [] [] p.recover (Sm.chks (procsF p.procs [] 0 (0, 0)).1.get [] [] p.main (procsF p.procs [] 0 (0, 0)).2.1 (procsF p.procs [] 0 (0, 0)).2.2).1 (Sm.chks (procsF p.procs [] 0 (0, 0)).1.get [] [] p.main (procsF p.procs [] 0 (0, 0)).2.1 (procsF p.procs [] 0 (0, 0)).2.2).2).1
        (Sm.chks (procsF p.procs [] 0 (0, 0)).1.get [] [] p.recover (Sm.chks (procsF p.procs [] 0 (0, 0)).1.get [] [] p.main (procsF p.procs [] 0 (0, 0)).2.1 (procsF p.procs [] 0 (0, 0)).2.2).1 (Sm.chks (procsF p.procs [] 0 (0, 0)).1.get [] [] p.main (procsF p.procs [] 0 (0, 0)).2.1 (procsF p.procs [] 0 (0, 0)).2.2).2).2).2 := rfl
      generalize (procsF p.procs [] 0 (0, 0)).1 = pr at hC hchk
      generalize (procsF p.procs [] 0 (0, 0)).2.1 = no at hC hchk hn1 hn2
      generalize (procsF p.procs [] 0 (0, 0)).2.2 = f at hC hchk
      have g0 : ∀ {K' : Heap} {ow' : List Nat}, Keeps B K' 3 [] ow' → K'[0]? = some (some [.sl 2 p.pcells, .sl 7 (Sm.rows p.main), .sl 7 (Sm.rows p.recover), .sl 5 p.ocells]) := fun hk => by
        rw [hk.2.1 0 (by omega) (by omega) (by simp), hB0]
      have g1 : ∀ {K' : Heap} {ow' : List Nat}, Keeps B K' 3 [] ow' → K'[1]? = some (some [.int .i64 0, .int .i64 0]) := fun hk => by
        rw [hk.2.1 1 (by omega) (by omega) (by simp), hB1]
      have hnm := chks_no pr.get p.main 1 [] [] no f hp3
      have hfm := Sm.flats_sizes p.main
      have hfr := Sm.flats_sizes p.recover
      obtain ⟨K5, sv5, ow5, ev5, hC5, hK5⟩ := ckBlock_ok _ p.main 1 (Nat.le_refl _) hp3 K 3 2 pr sv ow [] [] no f hC (by simp; omega) hn1 (by omega) _ (.inl rfl)
      generalize hf5 : (Sm.chks pr.get [] [] p.main no f).2 = f5 at hC5 hchk
      generalize (Sm.chks pr.get [] [] p.main no f).1 = no5 at hC5 hchk hnm
      have hnr := chks_no pr.get p.recover 1 [] [] no5 f5 hp4
      obtain ⟨K6, sv6, ow6, ev6, hC6, hK6⟩ := ckBlock_ok _ p.recover 1 (Nat.le_refl _) hp4 K5 3 2 pr sv5 ow5 [] [] no5 f5 hC5 (by simp; omega) (by omega) (by omega) _ (.inl rfl)
      generalize hf6 : (Sm.chks pr.get [] [] p.recover no5 f5).2 = f6 at hC6 hchk
      generalize (Sm.chks pr.get [] [] p.recover no5 f5).1 = no6 at hC6 hchk hnr
      have k5 := hK.trans hK5
      have k6 := k5.trans hK6
      have hloop := fun k φ hex h2 h3 h6 h60 h61 h62 => oracles_loop B 3 2 K6.length (by have := k6.1; omega) (by have := hC6.hi; omega) (by have := (List.getElem?_eq_some_iff.1 hC6.p).1; omega) pr p.oracles hp2 (fun x hx => by have := osz_mem hx; omega) (by omega) no6 f6 k Q 1 hex p.oracles 0 [] no6 f6 sv6 ow6 (K6 ++ [some (mpc [])]) φ rfl rfl (by omega) (by omega) (fun s => by simp [Mp.get]) (hC6.more _) (k6.more _) (by simp) (by
        rcases hC6.s with ⟨_, _, h, _⟩ | ⟨q, _, _, _, h, hS, _⟩
        · rw [h]; simp
        · rw [h]
          have : q < K6.length := (List.getElem?_eq_some_iff.1 hS.cells).1
          simp; omega) h2 h3 h6 h60 h61 h62
      rw [show (p.oracles.map fun x => V.str x.1 :: x.2.cells) = p.ocells from rfl] at hloop
      have gx : ∀ (A : Heap) h, (K6 ++ A)[0]'h = some [.sl 2 p.pcells, .sl 7 (Sm.rows p.main), .sl 7 (Sm.rows p.recover), .sl 5 p.ocells] := fun A h => by
        have := getE_app (g0 k6) A
        rw [List.getElem?_eq_getElem h] at this
        exact Option.some.inj this
      simp [r_types_Check_w_1, h1, h2, h3, g0 hK, ev5, g0 k5, ev6, g0 k6, gx, hol, mpc, mks, mvs] at hloop ⊢
      refine hloop _ _ ?_ ?_ ?_ ?_ ?_ ?_ ?_
      · intro φ2 K9 sv9 ow9 j2 j3 hC9 hK9
        have hc9 := hC9.c
        rw [← hchk] at hc9
        have hc9' : K9[3]? = some (some [sv9, .mptr 2, .int .i64 (oraclesF pr.get p.oracles [] no6 f6).1, .int .i64 p.chkF.1, .int .i64 p.chkF.2]) := hc9
        have hl9 : 3 < K9.length := hC9.hi
        have hx1 : ∀ h, K9[1]'h = some [.int .i64 0, .int .i64 0] := fun h => by
          have := g1 hK9
          rw [List.getElem?_eq_getElem h] at this
          exact Option.some.inj this
        have hl1 : 1 < K9.length := by omega
        simp [r_types_Check_w_0, j2, j3, hc9', g1 hK9, hx1, hl1]
        rw [hQ]
        exact ⟨_, by simp [Pg.chk, hok]; rfl⟩
      all_goals simp [h2, h3]
    subst hB
    simp [c_types_Check_w, hR, hpl]
    refine procs_loop _ 3 2 (by simp) p.procs hp1 (by omega) .nilp .nilp (.inr trivial) _ Q 0 1 hexit p.procs 0 [] 0 (0, 0) (.nils 1) [] _ _ rfl rfl (by omega) (by omega) (fun s => by simp [Mp.get]) ⟨?_, ?_, ?_, ?_⟩ ?_ ?_ ?_ ?_ ?_ ?_ ?_
    · rfl
    · rfl
    · omega
    · exact .inl ⟨rfl, rfl, rfl, rfl⟩
    · exact ⟨by simp, fun j hj _ _ => by
        match j, hj with
        | 0, _ => rfl
        | 1, _ => rfl
        | j + 2, hj => simp at hj; omega, fun q hq => by simp at hq⟩
    all_goals simp [Pg.pcells]
end Go.AM.Spec
