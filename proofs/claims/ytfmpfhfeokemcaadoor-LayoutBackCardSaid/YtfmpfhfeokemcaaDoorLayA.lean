/-
  Directories: names, in the program and in the document.
-/
import Derived.Test.YtfmpfhfeokemcaaDoorSpc
import Derived.Lib.SlTrimSet
namespace Go.AM.Spec
set_option linter.unusedVariables false
set_option linter.unusedSimpArgs false
set_option maxHeartbeats 1000000
set_option maxRecDepth 10000

abbrev iw (n : Int) : V := .int .i64 n

def signs : List UInt8 := [97, 98, 99, 100, 101, 102, 103, 104, 105, 106, 107, 108, 109, 110, 111, 112, 113, 114, 115, 116, 117, 118, 119, 120, 121, 122, 48, 49, 50, 51, 52, 53, 54, 55, 56, 57, 46, 95]
def signN (n : Nat) : Bool := (decide (97 ≤ n) && decide (n ≤ 122)) || ((decide (48 ≤ n) && decide (n ≤ 57)) || (decide (n = 46) || decide (n = 95)))

theorem signs_all : ((List.range 256).all fun n => signs.contains (UInt8.ofNat n) == signN n) = true := by decide +kernel
theorem signs_iff (c : UInt8) : signs.contains c = signN c.toNat := by
  have h := List.all_eq_true.1 signs_all c.toNat (List.mem_range.2 (UInt8.toNat_lt c))
  rw [beq_iff_eq, UInt8.ofNat_toNat] at h
  exact h

theorem dropWhile_nil {α : Type} (p : α → Bool) : ∀ l : List α, l.dropWhile p = [] ↔ l.all p = true
  | [] => by simp
  | a :: l => by
    by_cases h : p a = true
    · rw [List.dropWhile_cons_of_pos h, dropWhile_nil p l, List.all_cons, h, Bool.true_and]
    · simp only [Bool.not_eq_true] at h
      rw [List.dropWhile_cons_of_neg (by simp [h]), List.all_cons, h]
      simp

theorem trim_nil (s cs : List UInt8) : (Go.Lib.trimS s cs = []) ↔ s.all (cs.contains ·) = true := by
  unfold Go.Lib.trimS Go.Lib.trimLeftS Go.Lib.trimRightS
  rw [dropWhile_nil]
  constructor
  · intro h
    rw [List.all_eq_true] at h ⊢
    intro c hc
    by_cases hw : c ∈ s.reverse.dropWhile (cs.contains ·)
    · exact h c (by simpa using hw)
    · have hr : c ∈ s.reverse := by simpa using hc
      rw [← List.takeWhile_append_dropWhile (p := fun x => cs.contains x) (l := s.reverse), List.mem_append] at hr
      rcases hr with hr | hr
      · exact (List.all_eq_true.1 (List.all_takeWhile (p := fun x => cs.contains x) (l := s.reverse)) c hr)
      · exact absurd hr hw
  · intro h
    rw [List.all_eq_true] at h ⊢
    intro c hc
    refine h c ?_
    have : c ∈ s.reverse.dropWhile (cs.contains ·) := by simpa using hc
    have := (List.dropWhile_sublist (l := s.reverse) (fun x => cs.contains x)).subset this
    simpa using this

/-- May it be a name? -/
def nameOK (s : List UInt8) : Bool := decide (s ≠ []) && (decide (s.length ≤ 8) && (decide (s ≠ [46]) && (decide (s ≠ [46, 46]) && s.all fun c => signN c.toNat)))

theorem trim_eq (s : List UInt8) (hs : s.length ≤ 1000) (H : Heap) : eval tbl noExt n_strings_Trim [.str s, .str signs] H = some (.str (Go.Lib.trimS s signs), H) := by
  have h1 : s.length ≤ 1000000 := by omega
  have h2 : signs.length ≤ 1000000 := by decide
  have h3 : (signs.all fun b => decide (b.toNat < 128)) = true := by decide
  rw [eval_X (e := xTrim) rfl rfl]
  show (if s.length ≤ 1000000 ∧ signs.length ≤ 1000000 ∧ (signs.all fun b => decide (b.toNat < 128)) then some (V.str (Go.Lib.trimS s signs), H) else none) = _
  rw [if_pos ⟨h1, h2, h3⟩]

theorem LName_eq (s : List UInt8) (hs : s.length ≤ 1000) (H : Heap) : eval tbl noExt n_layout_Name [.str s] H = some (.bool (nameOK s), H) := by
  have ht := trim_eq s hs []
  unfold signs at ht
  rw [eval_M rfl rfl t_layout_Name rfl]
  unfold nameOK
  by_cases a1 : s = []
  · subst a1
    simp [c_layout_Name]
  · by_cases a2 : s.length ≤ 8
    · have a2' : (s.length : Int) ≤ 8 := by omega
      by_cases a3 : s = [46]
      · subst a3
        simp [c_layout_Name]
      · by_cases a4 : s = [46, 46]
        · subst a4
          simp [c_layout_Name]
        · have hall : (s.all fun c => signN c.toNat) = decide (Go.Lib.trimS s signs = []) := by
            rw [Bool.eq_iff_iff, decide_eq_true_eq, trim_nil]
            have : (s.all fun c => signN c.toNat) = s.all (signs.contains ·) := by
              congr 1
              funext c
              exact (signs_iff c).symm
            rw [this]
          rw [hall]
          unfold signs
          simp [c_layout_Name, a1, a2, a2', a3, a4, ht]
    · have a2' : ¬ (s.length : Int) ≤ 8 := by omega
      simp [c_layout_Name, a1, a2, a2']

theorem refLName_loop (s : List UInt8) (hl : s.length ≤ 1000) (call : CallF) (K : Heap) (Q : Option (V × Heap) → Prop) (k : List Item) (X : Bool)
    (hyes : ∀ φ', X = true → Q (M call k φ' K)) (hno : ∀ φ', X = false → Fr.get φ' 2 = .bool false → Q (retK k φ' K)) :
    ∀ (j i : Nat) (φ : Fr), i + j = s.length → ((s.drop i).all fun c => signN c.toNat) = X → Fr.get φ 0 = .str s → Fr.get φ 3 = iw i → Q (M call (.code l_flotsamref07_Name_0 :: .blk 0 :: k) φ K) := by
  intro j
  induction j with
  | zero =>
    intro i φ hi hX h0 h3
    have hlt : ¬ (i : Int) < s.length := by omega
    rw [List.drop_eq_nil_of_le (by omega)] at hX
    rw [l_flotsamref07_Name_0, M_loop]
    simp [b_flotsamref07_Name_0, h0, h3, hlt]
    exact hyes _ (by rw [← hX]; rfl)
  | succ j ih =>
    intro i φ hi hX h0 h3
    have hlt : i < s.length := by omega
    obtain ⟨c, hc⟩ : ∃ c, c = s[i] := ⟨_, rfl⟩
    have hc' : s[i]? = some c := by rw [hc]; exact List.getElem?_eq_getElem hlt
    have hg : ∀ h : i < s.length, s[i] = c := fun h => hc.symm
    rw [List.drop_eq_getElem_cons hlt, ← hc, List.all_cons] at hX
    have e1 : (i : Int) < s.length := by omega
    have e2 : IntKind.i64.wrap ((i : Int) + 1) = ((i + 1 : Nat) : Int) := by rw [w64] <;> omega
    obtain ⟨n, hn⟩ : ∃ n, n = c.toNat := ⟨_, rfl⟩
    rw [← hn] at hX
    have hdec : signN n = ((decide ((97 : Int) ≤ n) && decide ((n : Int) ≤ 122)) || ((decide ((48 : Int) ≤ n) && decide ((n : Int) ≤ 57)) || (decide ((n : Int) = 46) || decide ((n : Int) = 95)))) := by
      unfold signN
      have d1 : decide ((97 : Int) ≤ n) = decide (97 ≤ n) := decide_eq_decide.2 (by omega)
      have d2 : decide ((n : Int) ≤ 122) = decide (n ≤ 122) := decide_eq_decide.2 (by omega)
      have d3 : decide ((48 : Int) ≤ n) = decide (48 ≤ n) := decide_eq_decide.2 (by omega)
      have d4 : decide ((n : Int) ≤ 57) = decide (n ≤ 57) := decide_eq_decide.2 (by omega)
      have d5 : decide ((n : Int) = 46) = decide (n = 46) := decide_eq_decide.2 (by omega)
      have d6 : decide ((n : Int) = 95) = decide (n = 95) := decide_eq_decide.2 (by omega)
      rw [d1, d2, d3, d4, d5, d6]
    obtain ⟨I, hI⟩ : ∃ I : Int, I = (n : Int) := ⟨_, rfl⟩
    have hcI : ((c.toNat : Nat) : Int) = I := by rw [hI, hn]
    rw [← hI] at hdec
    rw [hdec] at hX
    rw [l_flotsamref07_Name_0, M_loop, ← l_flotsamref07_Name_0]
    by_cases b1 : 97 ≤ I
    · by_cases b2 : I ≤ 122
      · simp [b_flotsamref07_Name_0, h0, h3, hc', hlt, hg, e1, e2, hcI, b1, b2]
        refine ih (i + 1) _ (by omega) (by rw [← hX]; simp [b1, b2]) ?_ ?_ <;> simp [h0]
      · have b3 : ¬ I ≤ 57 := by omega
        have b4 : ¬ I = 46 := by omega
        have b5 : ¬ I = 95 := by omega
        have b6 : 48 ≤ I := by omega
        simp [b_flotsamref07_Name_0, h0, h3, hc', hlt, hg, e1, e2, hcI, b1, b2, b3, b4, b5, b6]
        exact hno _ (by rw [← hX]; simp [b1, b2, b3, b4, b5, b6]) (by simp)
    · by_cases b6 : 48 ≤ I
      · by_cases b3 : I ≤ 57
        · simp [b_flotsamref07_Name_0, h0, h3, hc', hlt, hg, e1, e2, hcI, b1, b3, b6]
          refine ih (i + 1) _ (by omega) (by rw [← hX]; simp [b1, b3, b6]) ?_ ?_ <;> simp [h0]
        · have b4 : ¬ I = 46 := by omega
          by_cases b5 : I = 95
          · simp [b_flotsamref07_Name_0, h0, h3, hc', hlt, hg, e1, e2, hcI, b5]
            refine ih (i + 1) _ (by omega) (by rw [← hX]; simp [b5]) ?_ ?_ <;> simp [h0]
          · simp [b_flotsamref07_Name_0, h0, h3, hc', hlt, hg, e1, e2, hcI, b1, b3, b4, b5, b6]
            exact hno _ (by rw [← hX]; simp [b1, b3, b4, b5, b6]) (by simp)
      · have b5 : ¬ I = 95 := by omega
        by_cases b4 : I = 46
        · simp [b_flotsamref07_Name_0, h0, h3, hc', hlt, hg, e1, e2, hcI, b4]
          refine ih (i + 1) _ (by omega) (by rw [← hX]; simp [b4]) ?_ ?_ <;> simp [h0]
        · simp [b_flotsamref07_Name_0, h0, h3, hc', hlt, hg, e1, e2, hcI, b1, b4, b5, b6]
          exact hno _ (by rw [← hX]; simp [b1, b4, b5, b6]) (by simp)

theorem refLName_eq (s : List UInt8) (hs : s.length ≤ 1000) (H : Heap) : eval tbl noExt n_flotsamref07_Name [.str s] H = some (.bool (nameOK s), H) := by
  rw [eval_M rfl rfl t_flotsamref07_Name rfl]
  unfold nameOK
  by_cases a1 : s = []
  · subst a1
    simp [c_flotsamref07_Name]
  · have a0 : ¬ (s.length : Int) < 1 := by
      intro h
      exact a1 (List.eq_nil_of_length_eq_zero (by omega))
    by_cases a2 : s.length ≤ 8
    · have a2' : ¬ (8 : Int) < s.length := by omega
      by_cases a3 : s = [46]
      · subst a3
        simp [c_flotsamref07_Name]
      · by_cases a4 : s = [46, 46]
        · subst a4
          simp [c_flotsamref07_Name]
        · obtain ⟨X, hX⟩ : ∃ X, X = s.all fun c => signN c.toNat := ⟨_, rfl⟩
          rw [← hX]
          simp [c_flotsamref07_Name, a0, a1, a2, a2', a3, a4]
          refine refLName_loop s hs _ H (fun r => r = some (.bool X, H)) _ X ?_ ?_ s.length 0 _ (by omega) (by rw [hX]; rfl) ?_ ?_
          · intro φ' h
            simp [r_flotsamref07_Name_0, h]
          · intro φ' h h2
            simp [h2, h]
          all_goals simp
    · have a2' : (8 : Int) < s.length := by omega
      simp [c_flotsamref07_Name, a0, a1, a2, a2']

end Go.AM.Spec
