/-
  What is read of an argument, as plain data: for types of bools, integers, strings, slices and structs of such.
-/
import Derived.Test.YtbgblfbbeamleaaGreatDoorLaw
import Derived.Deep.Slices
import Derived.Lib.LaidTab
import Derived.Carry
namespace Go.AM
open Go.ChangeShapes Go.WideShapes Go.Deep
set_option linter.unusedVariables false

/-- The cells of a value of a type, as plain data. -/
inductive Ty (P : Program) : TypeId → List V → Prop
  | bool {t : TypeId} (h : P.underlying t = some .bool) (b : Bool) : Ty P t [.bool b]
  | int {t : TypeId} {k : IntKind} (h : P.underlying t = some (.int k)) (n : Int) (hw : (Lit.int k n).wf = true) : Ty P t [.int k n]
  | str {t : TypeId} (h : P.underlying t = some .string) (s : List UInt8) (hs : s.length ≤ maxLen) : Ty P t [.str s]
  | sl {t e : TypeId} (h : P.underlying t = some (.slice e)) (rows : List (List V)) (hl : rows.length ≤ maxLen) (hr : ∀ r ∈ rows, Ty P e r) : Ty P t [.sl (P.cellsOf e) rows]
  | struct {t : TypeId} {fs : Array Field} (h : P.underlying t = some (.struct fs)) (parts : List (List V)) (hl : parts.length = fs.size) (hp : ∀ (j : Nat) (f : Field) (p : List V), fs[j]? = some f → parts[j]? = some p → Ty P f.type p) : Ty P t parts.flatten
  | arr {t e : TypeId} {n : Nat} (h : P.underlying t = some (.array n e)) (parts : List (List V)) (hl : parts.length = n) (hp : ∀ p ∈ parts, Ty P e p) : Ty P t parts.flatten

def fieldsAt (P : Program) (ts : List TypeId) : List Field → Nat → Nat → Bool
  | [], off, n => off == n
  | f :: r, off, n => f.offset == off && ts.contains f.type && fieldsAt P ts r (off + P.cellsOf f.type) n

/-- Is a type plain, its parts among those listed? -/
def plainAt (P : Program) (ts : List TypeId) (t : TypeId) : Bool := match P.underlying t with
  | some .bool => true
  | some (.int _) => true
  | some .string => true
  | some (.slice e) => ts.contains e && decide (0 < P.cellsOf e)
  | some (.struct fs) => fieldsAt P ts fs.toList 0 (P.cellsOf t)
  | some (.array n e) => ts.contains e && P.cellsOf t == n * P.cellsOf e
  | _ => false

section
variable {H : Type} {enc : TypeId × Value → H} {P : Program} {w : World}

/-- The parts of a struct, one behind the other. -/
theorem open_fields {ts : List TypeId} {n : Nat} (ih : ∀ t cs x, t ∈ ts → DataW.trod enc P w 0 (fun _ => true) true n t cs = some x → ∃ vs, vs.length = cs.length ∧ Ty P t vs ∧ ∀ (j : Nat) v c, vs[j]? = some v → cs[j]? = some c → PR w (fun _ _ => False) v c) (cs : List Value) :
    ∀ (l : List Field) (off m : Nat), fieldsAt P ts l off m = true → cs.length = m → off ≤ m → (∀ f ∈ l, ∃ x, DataW.trod enc P w 0 (fun _ => true) true n f.type ((cs.drop f.offset).take (P.cellsOf f.type)) = some x) →
      ∃ parts : List (List V), parts.length = l.length ∧ parts.flatten.length = m - off ∧ (∀ (j : Nat) (f : Field) (p : List V), l[j]? = some f → parts[j]? = some p → Ty P f.type p) ∧
        ∀ (j : Nat) v c, parts.flatten[j]? = some v → (cs.drop off)[j]? = some c → PR w (fun _ _ => False) v c := by
  intro l
  induction l with
  | nil =>
    intro off m h hm hle _
    simp only [fieldsAt, beq_iff_eq] at h
    exact ⟨[], rfl, by simp [h], fun j f p h => by simp at h, fun j v c h => by simp at h⟩
  | cons f r ihl =>
    intro off m h hm hle hf
    simp only [fieldsAt, Bool.and_eq_true, beq_iff_eq, List.contains_iff_mem] at h
    obtain ⟨⟨hoff, hty⟩, hrest⟩ := h
    have hmono : ∀ (r : List Field) (a b : Nat), fieldsAt P ts r a b = true → a ≤ b := by
      intro r
      induction r with
      | nil => intro a b h; simp only [fieldsAt, beq_iff_eq] at h; omega
      | cons g r ihr =>
        intro a b h
        simp only [fieldsAt, Bool.and_eq_true] at h
        have := ihr _ _ h.2
        omega
    have hle2 := hmono _ _ _ hrest
    obtain ⟨x, hx⟩ := hf f (by simp)
    obtain ⟨vs, hv1, hv2, hv3⟩ := ih _ _ _ hty hx
    obtain ⟨parts, hp1, hp2, hp3, hp4⟩ := ihl _ m hrest hm hle2 (fun g hg => hf g (by simp [hg]))
    have hvl : vs.length = P.cellsOf f.type := by
      rw [hv1, List.length_take, List.length_drop, hoff]; omega
    refine ⟨vs :: parts, by simp [hp1], by simp only [List.flatten_cons, List.length_append, hvl, hp2]; omega, ?_, ?_⟩
    · intro j g p h1 h2
      cases j with
      | zero => simp at h1 h2; subst h1 h2; exact hv2
      | succ j => exact hp3 j g p (by simpa using h1) (by simpa using h2)
    · intro j v c h1 h2
      rw [List.flatten_cons] at h1
      by_cases hj : j < vs.length
      · rw [List.getElem?_append_left hj] at h1
        refine hv3 j v c h1 ?_
        rw [List.getElem?_take_of_lt (by omega), hoff]
        exact h2
      · rw [List.getElem?_append_right (by omega)] at h1
        refine hp4 (j - vs.length) v c h1 ?_
        rw [List.getElem?_drop] at h2 ⊢
        rw [← h2]
        congr 1
        omega

theorem open_plain {ts : List TypeId} (hts : ∀ t ∈ ts, plainAt P ts t = true) : ∀ (fuel : Nat) (t : TypeId) (cs : List Value) (x : DataW H × List MemPlace), t ∈ ts → DataW.trod enc P w 0 (fun _ => true) true fuel t cs = some x →
    ∃ vs, vs.length = cs.length ∧ Ty P t vs ∧ ∀ (j : Nat) v c, vs[j]? = some v → cs[j]? = some c → PR w (fun _ _ => False) v c := by
  intro fuel
  induction fuel with
  | zero => intro t cs x _ h; simp [DataW.trod] at h
  | succ n ih =>
    intro t cs x ht h
    have hp := hts t ht
    unfold plainAt at hp
    split at hp
    · rename_i hu
      obtain ⟨b, rfl, _⟩ := DataW.trod_bool hu h
      refine ⟨[.bool b], rfl, .bool hu b, fun j v c h1 h2 => ?_⟩
      cases j with
      | zero => simp at h1 h2; subst h1 h2; exact .bool _
      | succ j => simp at h1
    · rename_i k hu
      obtain ⟨m, rfl, _, hw⟩ := DataW.trod_int hu h
      refine ⟨[.int k m], rfl, .int hu m hw, fun j v c h1 h2 => ?_⟩
      cases j with
      | zero => simp at h1 h2; subst h1 h2; exact .int _ _
      | succ j => simp at h1
    · rename_i hu
      obtain ⟨s, rfl, _, hs⟩ := DataW.trod_string hu h
      refine ⟨[.str s.data.toList], rfl, .str hu _ (by simpa using hs), fun j v c h1 h2 => ?_⟩
      cases j with
      | zero => simp at h1 h2; subst h1 h2; exact str_pr _
      | succ j => simp at h1
    · rename_i e hu
      simp only [Bool.and_eq_true, List.contains_iff_mem, decide_eq_true_eq] at hp
      obtain ⟨he, hk⟩ := hp
      rcases DataW.trod_slice hu h with ⟨rfl, _⟩ | ⟨a, len, cap, elems, rest, m, hm, rfl, _, _, hlc, hcm, hel, hget, _, _⟩
      · refine ⟨[.sl (P.cellsOf e) []], rfl, .sl hu [] (by simp) (by simp), fun j v c h1 h2 => ?_⟩
        cases j with
        | zero =>
          simp at h1 h2; subst h1 h2
          exact PR.sl _ [] none 0 0 0 (fun _ _ => Go.undef) (Nat.le_refl _) (fun _ => rfl) (by simp) (fun h => absurd rfl h) (by simp) (by simp)
        | succ j => simp at h1
      · obtain rfl : n = m := by omega
        have hone : ∀ i, i < len → ∃ p : List Value × List V, w.cells? 0 (a.add (i * P.cellsOf e)) (P.cellsOf e) = some p.1 ∧ p.2.length = p.1.length ∧ Ty P e p.2 ∧ ∀ (j : Nat) v c, p.2[j]? = some v → p.1[j]? = some c → PR w (fun _ _ => False) v c := by
          intro i hi
          have hg := hget i hi
          rw [List.getElem?_eq_getElem (by omega)] at hg
          obtain ⟨cs', h1, h2⟩ := Option.bind_eq_some_iff.1 hg
          obtain ⟨vs, hv⟩ := ih e cs' _ he h2
          exact ⟨(cs', vs), h1, hv⟩
        obtain ⟨f, hf⟩ := choose_lt hone
        have hrow : ∀ (i : Nat) (r : List V), ((List.range len).map fun i => (f i).2)[i]? = some r → i < len ∧ r = (f i).2 := by
          intro i r hr
          rw [List.getElem?_map] at hr
          by_cases hi : i < len
          · rw [List.getElem?_range hi] at hr
            simp at hr
            exact ⟨hi, hr.symm⟩
          · rw [List.getElem?_eq_none (by simpa using hi)] at hr
            simp at hr
        have hflen : ∀ i, i < len → (f i).1.length = P.cellsOf e := fun i hi => (World.cells?_some (hf i hi).1).2.1
        have hcell : ∀ (i j : Nat) (r : List V) (v : V), ((List.range len).map fun i => (f i).2)[i]? = some r → r[j]? = some v → a.spot = none ∧ w.cell? ⟨a.block, a.off + i * P.cellsOf e + j, none⟩ = some ((f i).1.getD j Go.undef) ∧ PR w (fun _ _ => False) v ((f i).1.getD j Go.undef) := by
          intro i j r v hr hv
          obtain ⟨hi, rfl⟩ := hrow i r hr
          obtain ⟨hc, hl, hty, hpr⟩ := hf i hi
          have hj : j < (f i).1.length := by
            rw [← hl]
            exact (List.getElem?_eq_some_iff.1 hv).1
          have hjk : j < P.cellsOf e := by rw [← hflen i hi]; exact hj
          have hcj := (World.cells?_some hc).2.2 j hjk
          have h0 := (World.cells?_some (hf 0 (by omega)).1).2.2 0 hk
          have hspot : a.spot = none := by
            have e0 : (a.add (0 * P.cellsOf e)).add 0 = a := by simp [Addr.add]
            rw [e0] at h0
            rw [List.getElem?_eq_getElem (by rw [hflen 0 (by omega)]; exact hk)] at h0
            unfold World.cell? at h0
            split at h0
            · split at h0
              · cases h0
              · rename_i hs
                cases hsp : a.spot with
                | none => rfl
                | some _ => rw [hsp] at hs; simp at hs
            · cases h0
          have ea : (a.add (i * P.cellsOf e)).add j = ⟨a.block, a.off + i * P.cellsOf e + j, none⟩ := by
            rw [Go.Deep.add_add]
            obtain ⟨b, o, s⟩ := a
            simp only at hspot
            subst hspot
            unfold Addr.add
            split
            · rename_i hz
              have : i * P.cellsOf e = 0 := by omega
              have : j = 0 := by omega
              simp [*]
            · simp
          rw [ea, List.getElem?_eq_getElem hj] at hcj
          refine ⟨hspot, ?_, ?_⟩
          · rw [hcj]; simp [List.getD, List.getElem?_eq_getElem hj]
          · have := hpr j v _ hv (List.getElem?_eq_getElem hj)
            simpa [List.getD, List.getElem?_eq_getElem hj] using this
        have hrl : ((List.range len).map fun i => (f i).2).length = len := by simp
        refine ⟨[.sl (P.cellsOf e) ((List.range len).map fun i => (f i).2)], rfl, .sl hu _ (by rw [hrl]; omega) (fun r hr => ?_), fun j v c h1 h2 => ?_⟩
        · obtain ⟨i, hi, rfl⟩ := List.mem_map.1 hr
          exact (hf i (List.mem_range.1 hi)).2.2.1
        · cases j with
          | succ j => simp at h1
          | zero =>
            simp only [List.getElem?_cons_zero, Option.some.injEq] at h1 h2
            subst h1 h2
            have := PR.sl (w := w) (F := fun _ _ => False) (P.cellsOf e) ((List.range len).map fun i => (f i).2) (some a) cap a.block a.off (fun i j => (f i).1.getD j Go.undef) (by rw [hrl]; exact hlc) (fun h => by cases h)
              (fun r hr => by
                obtain ⟨i, hi, rfl⟩ := List.mem_map.1 hr
                have hi' := List.mem_range.1 hi
                rw [(hf i hi').2.1, hflen i hi'])
              (fun hne => by
                have hlen : 0 < len := by
                  rcases Nat.eq_zero_or_pos len with h | h
                  · subst h; simp at hne
                  · exact h
                have hl0 : (f 0).2.length = P.cellsOf e := by rw [(hf 0 hlen).2.1, hflen 0 hlen]
                have hs := (hcell 0 0 (f 0).2 ((f 0).2[0]'(by omega)) (by rw [List.getElem?_map, List.getElem?_range hlen]; rfl) (List.getElem?_eq_getElem _)).1
                obtain ⟨b, o, s⟩ := a
                simp only at hs
                subst hs
                rfl)
              (fun i j r v hr hv => ⟨(hcell i j r v hr hv).2.1, fun h => h⟩)
              (fun i j r v hr hv => (hcell i j r v hr hv).2.2)
            rw [hrl] at this
            exact this
    · rename_i fs hu
      obtain ⟨xs, m, hm, _, hl, hlen, hf⟩ := DataW.trod_struct hu h
      obtain rfl : n = m := by omega
      obtain ⟨parts, hp1, hp2, hp3, hp4⟩ := open_fields ih cs fs.toList 0 (P.cellsOf t) hp hl (Nat.zero_le _) (fun f hmem => by
        obtain ⟨i, hi, he⟩ := List.getElem_of_mem hmem
        have hfi := hf i f (by rw [← Array.getElem?_toList, List.getElem?_eq_getElem hi, he])
        have hix : i < xs.length := by rw [hlen]; simpa using hi
        rw [List.getElem?_eq_getElem hix] at hfi
        exact ⟨_, hfi⟩)
      refine ⟨parts.flatten, by rw [hp2, hl, Nat.sub_zero], .struct hu parts (by rw [hp1]; simp) (fun j f p h1 h2 => hp3 j f p (by rw [Array.getElem?_toList]; exact h1) h2), fun j v c h1 h2 => hp4 j v c h1 (by simpa using h2)⟩
    · rename_i m e hu
      simp only [Bool.and_eq_true, List.contains_iff_mem, beq_iff_eq] at hp
      obtain ⟨he, hsz⟩ := hp
      simp only [DataW.trod, hu] at h
      split at h
      · rename_i hl
        obtain ⟨xs, hm, hx⟩ := Option.map_eq_some_iff.1 h
        have hone : ∀ i, i < m → ∃ vs : List V, vs.length = ((cs.drop (i * P.cellsOf e)).take (P.cellsOf e)).length ∧ Ty P e vs ∧ ∀ (j : Nat) v c, vs[j]? = some v → ((cs.drop (i * P.cellsOf e)).take (P.cellsOf e))[j]? = some c → PR w (fun _ _ => False) v c := by
          intro i hi
          obtain ⟨b, hb, hf⟩ := Go.Lib.mapM_at hm i i (by simp [hi])
          exact ih e _ b he hf
        obtain ⟨f, hf⟩ := choose_lt hone
        have hle : ∀ i, i < m → i * P.cellsOf e + P.cellsOf e ≤ m * P.cellsOf e := fun i hi => by
          have := Nat.mul_le_mul_right (P.cellsOf e) (show i + 1 ≤ m from hi)
          rw [Nat.add_mul, Nat.one_mul] at this; exact this
        have hfl : ∀ i, i < m → (f i).length = P.cellsOf e := fun i hi => by
          rw [(hf i hi).1, List.length_take, List.length_drop, hl, hsz]
          have := hle i hi
          omega
        have hw : ∀ r ∈ (List.range m).map f, r.length = P.cellsOf e := fun r hr => by
          obtain ⟨i, hi, rfl⟩ := List.mem_map.1 hr
          exact hfl i (List.mem_range.1 hi)
        refine ⟨((List.range m).map f).flatten, by rw [flatten_len hw, hl, hsz]; simp, .arr hu _ (by simp) (fun p hp => ?_), fun j v c h1 h2 => ?_⟩
        · obtain ⟨i, hi, rfl⟩ := List.mem_map.1 hp
          exact (hf i (List.mem_range.1 hi)).2.1
        · obtain ⟨h0, r, q1, q2⟩ := flatten_get hw j v h1
          have hi : j / P.cellsOf e < m := by
            have := get_some q1
            simpa using this
          rw [List.getElem?_map, List.getElem?_range hi] at q1
          simp at q1
          subst q1
          refine (hf _ hi).2.2 _ v c q2 ?_
          rw [List.getElem?_take_of_lt (Nat.mod_lt _ h0), List.getElem?_drop, ← h2]
          congr 1
          have := Nat.div_add_mod j (P.cellsOf e)
          rw [Nat.mul_comm] at this
          exact this
      · cases h
    · cases hp

/-- An argument that is a struct of plain parts. -/
theorem open_struct {ts : List TypeId} (hts : ∀ t ∈ ts, plainAt P ts t = true) {t : TypeId} (ht : t ∈ ts) {fs : Array Field} (hu : P.underlying t = some (.struct fs)) {r : Reach} {b0 : Nat} {v : Value} {d : DataW H} {p : List MemPlace} (hv : Value.okWide P w r b0 t v) (h : DataW.Trod enc P w 0 (fun _ => true) true t v d p) :
    ∃ vs, Ty P t vs ∧ R w (fun _ _ => False) [] (.agg vs) v := by
  obtain ⟨cs, rfl, hsz⟩ := okWide_struct hu hv
  obtain ⟨fuel, hf⟩ := h
  obtain ⟨vs, hl, hty, hpr⟩ := open_plain hts fuel t _ _ ht hf
  refine ⟨vs, hty, .agg vs cs (by simpa [Value.cells] using hl.symm) fun j v x h1 h2 => .pr (hpr j v x h1 ?_)⟩
  simpa [Value.cells] using h2

/-- An argument that is a slice of plain parts. -/
theorem open_list {ts : List TypeId} (hts : ∀ t ∈ ts, plainAt P ts t = true) {t e : TypeId} (ht : t ∈ ts) (hu : P.underlying t = some (.slice e)) {v : Value} {d : DataW H} {p : List MemPlace} (hv : v.cells = #[v]) (h : DataW.Trod enc P w 0 (fun _ => true) true t v d p) :
    ∃ vs, Ty P t [vs] ∧ PR w (fun _ _ => False) vs v := by
  obtain ⟨fuel, hf⟩ := h
  rw [hv] at hf
  obtain ⟨vs, hl, hty, hpr⟩ := open_plain hts fuel t _ _ ht hf
  match vs, hl with
  | [x], _ => exact ⟨x, hty, hpr 0 x v rfl rfl⟩

end
end Go.AM
