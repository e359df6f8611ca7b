/-
  What values of a type look like, as plain data.
-/
import Derived.Test.YtbgblfbbeamleaaGreatDoorOpn
namespace Go.AM.Spec
set_option linter.unusedVariables false
set_option linter.unusedSimpArgs false

/-- Fits an int64. -/
def Fit (n : Int) : Prop := (Lit.int .i64 n).wf = true
/-- Is a list no longer than any may be? -/
def Len (n : Nat) : Prop := n ≤ maxLen

def TyL (P : Program) : List TypeId → List (List V) → Prop
  | [], [] => True
  | t :: ts, p :: ps => Ty P t p ∧ TyL P ts ps
  | _, _ => False

section
variable {P : Program}

theorem TyL_of {fs : List Field} {parts : List (List V)} (hl : parts.length = fs.length) (hp : ∀ (j : Nat) (f : Field) (p : List V), fs[j]? = some f → parts[j]? = some p → Ty P f.type p) : TyL P (fs.map (·.type)) parts := by
  induction fs generalizing parts with
  | nil => cases parts with
    | nil => trivial
    | cons => simp at hl
  | cons f r ih => cases parts with
    | nil => simp at hl
    | cons p q => exact ⟨hp 0 f p rfl rfl, ih (by simpa using hl) (fun j g x h1 h2 => hp (j + 1) g x (by simpa using h1) (by simpa using h2))⟩

theorem Ty_inv {t : TypeId} {vs : List V} (h : Ty P t vs) : match P.underlying t with
    | some .bool => ∃ b, vs = [.bool b]
    | some (.int k) => ∃ n, vs = [.int k n] ∧ (Lit.int k n).wf = true
    | some .string => ∃ s, vs = [.str s] ∧ Len s.length
    | some (.slice e) => ∃ rows, vs = [.sl (P.cellsOf e) rows] ∧ Len rows.length ∧ ∀ r ∈ rows, Ty P e r
    | some (.struct fs) => ∃ parts, vs = parts.flatten ∧ TyL P (fs.toList.map (·.type)) parts
    | some (.array n e) => ∃ parts : List (List V), vs = parts.flatten ∧ parts.length = n ∧ ∀ p ∈ parts, Ty P e p
    | _ => False := by
  cases h with
  | bool h b => rw [h]; exact ⟨b, rfl⟩
  | int h n hw => rw [h]; exact ⟨n, rfl, hw⟩
  | str h s hs => rw [h]; exact ⟨s, rfl, hs⟩
  | sl h rows hl hr => rw [h]; exact ⟨rows, rfl, hl, hr⟩
  | arr h parts hl hp => rw [h]; exact ⟨parts, rfl, hl, hp⟩
  | struct h parts hl hp => rw [h]; exact ⟨parts, rfl, TyL_of (by simpa using hl) (fun j f p h1 h2 => hp j f p (by rw [← Array.getElem?_toList]; exact h1) h2)⟩

theorem Ty_struct_of {t : TypeId} {fs : Array Field} {vs : List V} (h : Ty P t vs) (ht : P.underlying t = some (.struct fs)) : ∃ parts, vs = parts.flatten ∧ TyL P (fs.toList.map (·.type)) parts := by
  have := Ty_inv h; rw [ht] at this; exact this
theorem Ty_arr_of {t e : TypeId} {n : Nat} {vs : List V} (h : Ty P t vs) (ht : P.underlying t = some (.array n e)) : ∃ parts : List (List V), vs = parts.flatten ∧ parts.length = n ∧ ∀ p ∈ parts, Ty P e p := by
  have := Ty_inv h; rw [ht] at this; exact this
theorem Ty_int_of {t : TypeId} {k : IntKind} {vs : List V} (h : Ty P t vs) (ht : P.underlying t = some (.int k)) : ∃ n, vs = [.int k n] ∧ (Lit.int k n).wf = true := by
  have := Ty_inv h; rw [ht] at this; exact this
theorem Ty_bool_of {t : TypeId} {vs : List V} (h : Ty P t vs) (ht : P.underlying t = some .bool) : ∃ b, vs = [.bool b] := by
  have := Ty_inv h; rw [ht] at this; exact this
theorem Ty_str_of {t : TypeId} {vs : List V} (h : Ty P t vs) (ht : P.underlying t = some .string) : ∃ s, vs = [.str s] ∧ Len s.length := by
  have := Ty_inv h; rw [ht] at this; exact this
theorem Ty_sl_of {t e : TypeId} {vs : List V} (h : Ty P t vs) (ht : P.underlying t = some (.slice e)) : ∃ rows, vs = [.sl (P.cellsOf e) rows] ∧ Len rows.length ∧ ∀ r ∈ rows, Ty P e r := by
  have := Ty_inv h; rw [ht] at this; exact this

theorem TyL_2 {a b : TypeId} {parts : List (List V)} (h : TyL P [a, b] parts) : ∃ p q, parts = [p, q] ∧ Ty P a p ∧ Ty P b q := by
  match parts, h with
  | [p, q], ⟨h1, h2, _⟩ => exact ⟨p, q, rfl, h1, h2⟩
theorem TyL_4 {a b c d : TypeId} {parts : List (List V)} (h : TyL P [a, b, c, d] parts) : ∃ p q r s, parts = [p, q, r, s] ∧ Ty P a p ∧ Ty P b q ∧ Ty P c r ∧ Ty P d s := by
  match parts, h with
  | [p, q, r, s], ⟨h1, h2, h3, h4, _⟩ => exact ⟨p, q, r, s, rfl, h1, h2, h3, h4⟩
theorem TyL_7 {a b c d e f g : TypeId} {parts : List (List V)} (h : TyL P [a, b, c, d, e, f, g] parts) : ∃ p q r s t u v, parts = [p, q, r, s, t, u, v] ∧ Ty P a p ∧ Ty P b q ∧ Ty P c r ∧ Ty P d s ∧ Ty P e t ∧ Ty P f u ∧ Ty P g v := by
  match parts, h with
  | [p, q, r, s, t, u, v], ⟨h1, h2, h3, h4, h5, h6, h7, _⟩ => exact ⟨p, q, r, s, t, u, v, rfl, h1, h2, h3, h4, h5, h6, h7⟩

/-- A list of ints. -/
theorem ints_of {t : TypeId} (ht : P.underlying t = some (.int .i64)) : ∀ {parts : List (List V)}, (∀ p ∈ parts, Ty P t p) → ∃ l : List Int, parts.flatten = l.map (fun n => V.int .i64 n) ∧ l.length = parts.length ∧ ∀ n ∈ l, Fit n
  | [], _ => ⟨[], rfl, rfl, by simp⟩
  | p :: parts, h => by
    obtain ⟨l, h1, h2, h3⟩ := ints_of ht (parts := parts) (fun q hq => h q (by simp [hq]))
    obtain ⟨n, rfl, hw⟩ := Ty_int_of (h p (by simp)) ht
    refine ⟨n :: l, by simp [h1], by simp [h2], fun m hm => ?_⟩
    rcases List.mem_cons.1 hm with rfl | hm
    · exact hw
    · exact h3 m hm

end
end Go.AM.Spec
