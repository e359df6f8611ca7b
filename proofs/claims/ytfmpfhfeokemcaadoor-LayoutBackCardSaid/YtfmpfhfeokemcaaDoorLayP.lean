/-
  An entry, an inode and a sector that are arguments, as data.
-/
import Derived.Test.YtfmpfhfeokemcaaDoorTyl
import Derived.Test.YtfmpfhfeokemcaaDoorLayB
namespace Go.AM
open Go.ChangeShapes Go.WideShapes Go.Deep
set_option linter.unusedVariables false

/-- An argument that is an array of plain parts. -/
theorem open_array {H : Type} {enc : TypeId × Value → H} {P : Program} {w : World} {ts : List TypeId} (hts : ∀ t ∈ ts, plainAt P ts t = true) {t : TypeId} (ht : t ∈ ts) {n : Nat} {e : TypeId} (hu : P.underlying t = some (.array n e)) {r : Reach} {b0 : Nat} {v : Value} {d : DataW H} {p : List MemPlace} (hv : Value.okWide P w r b0 t v) (h : DataW.Trod enc P w 0 (fun _ => true) true t v d p) :
    ∃ vs, Ty P t vs ∧ R w (fun _ _ => False) [] (.agg vs) v := by
  simp only [Value.okWide, hu] at hv
  obtain ⟨cs, rfl, hsz, _⟩ := hv
  obtain ⟨fuel, hf⟩ := h
  obtain ⟨vs, hl, hty, hpr⟩ := open_plain hts fuel t _ _ ht hf
  refine ⟨vs, hty, .agg vs cs (by simpa [Value.cells] using hl.symm) fun j v x h1 h2 => .pr (hpr j v x h1 ?_)⟩
  simpa [Value.cells] using h2

namespace Spec
section
variable {P : Program}

theorem ent_of {t tB tI tS : TypeId} {fs : Array Field} {vs : List V} (h : Ty P t vs) (hu : P.underlying t = some (.struct fs)) (hf : fs.toList.map (·.type) = [tB, tI, tS, tI])
    (hB : P.underlying tB = some .bool) (hI : P.underlying tI = some (.int .i64)) (hS : P.underlying tS = some .string) : ∃ x : En, vs = x.cells := by
  obtain ⟨parts, rfl, hl⟩ := Ty_struct_of h hu
  rw [hf] at hl
  obtain ⟨p, q, r, u, rfl, h0, h1, h2, h3⟩ := TyL_4 hl
  obtain ⟨a, rfl⟩ := Ty_bool_of h0 hB
  obtain ⟨b, rfl, _⟩ := Ty_int_of h1 hI
  obtain ⟨c, rfl, _⟩ := Ty_str_of h2 hS
  obtain ⟨d, rfl, _⟩ := Ty_int_of h3 hI
  exact ⟨⟨a, b, c, d⟩, rfl⟩

theorem bytes_of {e : TypeId} (he : P.underlying e = some (.int .u8)) : ∀ {parts : List (List V)}, (∀ p ∈ parts, Ty P e p) → ∃ l : List UInt8, parts.flatten = bys l ∧ l.length = parts.length
  | [], _ => ⟨[], rfl, rfl⟩
  | p :: parts, h => by
    obtain ⟨l, h1, h2⟩ := bytes_of he (parts := parts) (fun q hq => h q (by simp [hq]))
    obtain ⟨n, rfl, hw⟩ := Ty_int_of (h p (by simp)) he
    have hr : 0 ≤ n ∧ n < 256 := by
      simp only [Lit.wf, Bool.and_eq_true, decide_eq_true_eq] at hw
      rw [show IntKind.u8.min = 0 from rfl, show IntKind.u8.max = 255 from rfl] at hw
      omega
    refine ⟨UInt8.ofNat n.toNat :: l, ?_, by simp [h2]⟩
    have e1 : ((UInt8.ofNat n.toNat).toNat : Int) = n := by
      rw [UInt8.toNat_ofNat']
      omega
    rw [List.flatten_cons, h1]
    show V.int .u8 n :: bys l = u8 ((UInt8.ofNat n.toNat).toNat : Int) :: bys l
    rw [e1]

theorem sec_of {t e : TypeId} {vs : List V} (h : Ty P t vs) (hu : P.underlying t = some (.array 32 e)) (he : P.underlying e = some (.int .u8)) : ∃ l : List UInt8, vs = bys l ∧ l.length = 32 := by
  obtain ⟨parts, rfl, hl, hp⟩ := Ty_arr_of h hu
  obtain ⟨l, h1, h2⟩ := bytes_of he hp
  exact ⟨l, h1, by rw [h2, hl]⟩

theorem ino_of {t tI tA : TypeId} {fs : Array Field} {vs : List V} (h : Ty P t vs) (hu : P.underlying t = some (.struct fs)) (hf : fs.toList.map (·.type) = [tI, tI, tA])
    (hI : P.underlying tI = some (.int .i64)) (hA : P.underlying tA = some (.array 4 tI)) : ∃ x : Ino, vs = x.cells := by
  obtain ⟨parts, rfl, hl⟩ := Ty_struct_of h hu
  rw [hf] at hl
  match parts, hl with
  | [p, q, r], ⟨h0, h1, h2, _⟩ =>
    obtain ⟨k, rfl, _⟩ := Ty_int_of h0 hI
    obtain ⟨s, rfl, _⟩ := Ty_int_of h1 hI
    obtain ⟨ps, rfl, hn, hp⟩ := Ty_arr_of h2 hA
    match ps, hn with
    | [p0, p1, p2, p3], _ =>
      obtain ⟨a, rfl, _⟩ := Ty_int_of (hp p0 (by simp)) hI
      obtain ⟨b, rfl, _⟩ := Ty_int_of (hp p1 (by simp)) hI
      obtain ⟨c, rfl, _⟩ := Ty_int_of (hp p2 (by simp)) hI
      obtain ⟨d, rfl, _⟩ := Ty_int_of (hp p3 (by simp)) hI
      exact ⟨⟨k, s, a, b, c, d⟩, rfl⟩

/-- An argument that is a list of sectors. -/
theorem secs_of {H : Type} {enc : TypeId × Value → H} {w : World} {ts : List TypeId} (hts : ∀ t ∈ ts, plainAt P ts t = true) {t e b : TypeId} (ht : t ∈ ts) (hu : P.underlying t = some (.slice e)) (he : P.underlying e = some (.array 32 b)) (hb : P.underlying b = some (.int .u8)) (hc : P.cellsOf e = 32)
    {r : Reach} {b0 : Nat} {v : Value} {d : DataW H} {p : List MemPlace} (hv : Value.okWide P w r b0 t v) (h : DataW.Trod enc P w 0 (fun _ => true) true t v d p) :
    ∃ l : List (List UInt8), (∀ s ∈ l, s.length = 32) ∧ R w (fun _ _ => False) [] (.sl 32 (l.map bys)) v := by
  obtain ⟨a, len, cap, rfl⟩ := okWide_slice hu hv
  obtain ⟨vs, hty, hpr⟩ := open_list hts ht hu (v := .slice a len cap) rfl h
  obtain ⟨rows, hr, _, hel⟩ := Ty_sl_of hty hu
  cases hr
  rw [hc] at hpr
  have key : ∀ {rows : List (List V)}, (∀ r ∈ rows, Ty P e r) → ∃ l : List (List UInt8), rows = l.map bys ∧ ∀ s ∈ l, s.length = 32 := by
    intro rows
    induction rows with
    | nil => intro _; exact ⟨[], rfl, by simp⟩
    | cons r rows ih =>
      intro h
      obtain ⟨l, rfl, h2⟩ := ih (fun q hq => h q (by simp [hq]))
      obtain ⟨s, rfl, hs⟩ := sec_of (h r (by simp)) he hb
      refine ⟨s :: l, rfl, fun q hq => ?_⟩
      rcases List.mem_cons.1 hq with rfl | hq
      · exact hs
      · exact h2 q hq
  obtain ⟨l, rfl, h2⟩ := key hel
  exact ⟨l, h2, .pr hpr⟩

end
end Spec
end Go.AM
