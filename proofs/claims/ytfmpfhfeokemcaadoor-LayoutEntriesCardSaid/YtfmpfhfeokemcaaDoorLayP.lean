/-
  An entry, an inode and a sector that are arguments, as data.
-/
import Derived.Test.YtfmpfhfeokemcaaDoorTyl
import Derived.Test.YtfmpfhfeokemcaaDoorLayB
namespace Go.AM
open Go.ChangeShapes Go.WideShapes Go.Deep
set_option linter.unusedVariables false

/-- An argument that is an array of plain parts. -/
theorem open_array {H : Type} {enc : TypeId × Value → H} {P : Program} {w : World} {ts : List TypeId} (hts : ∀ t ∈ ts, plainAt P ts t = true) {t : TypeId} (ht : t ∈ ts) {n : Nat} {e : TypeId} (hu : P.underlying t = some (.array n e)) {r : Reach} {b0 : Nat} {v : Value} {d : DataW H} {p : List MemPlace} (hv : Value.okWide P w r b0 t v) (h : DataW.Trod enc P w 0 (fun _ => true) true t v d p) :
    ∃ vs, Ty P t vs ∧ R w (fun _ _ => False) [] (.agg vs) v := by
  simp only [Value.okWide, hu] at hv
  obtain ⟨cs, rfl, hsz, _⟩ := hv
  obtain ⟨fuel, hf⟩ := h
  obtain ⟨vs, hl, hty, hpr⟩ := open_plain hts fuel t _ _ ht hf
  refine ⟨vs, hty, .agg vs cs (by simpa [Value.cells] using hl.symm) fun j v x h1 h2 => .pr (hpr j v x h1 ?_)⟩
  simpa [Value.cells] using h2

namespace Spec
section
variable {P : Program}

theorem ent_of {t tB tI tS : TypeId} {fs : Array Field} {vs : List V} (h : Ty P t vs) (hu : P.underlying t = some (.struct fs)) (hf : fs.toList.map (·.type) = [tB, tI, tS, tI])
    (hB : P.underlying tB = some .bool) (hI : P.underlying tI = some (.int .i64)) (hS : P.underlying tS = some .string) : ∃ x : En, vs = x.cells := by
  obtain ⟨parts, rfl, hl⟩ := Ty_struct_of h hu
  rw [hf] at hl
  obtain ⟨p, q, r, u, rfl, h0, h1, h2, h3⟩ := TyL_4 hl
  obtain ⟨a, rfl⟩ := Ty_bool_of h0 hB
  obtain ⟨b, rfl, _⟩ := Ty_int_of h1 hI
  obtain ⟨c, rfl, _⟩ := Ty_str_of h2 hS
  obtain ⟨d, rfl, _⟩ := Ty_int_of h3 hI
  exact ⟨⟨a, b, c, d⟩, rfl⟩

theorem bytes_of {e : TypeId} (he : P.underlying e = some (.int .u8)) : ∀ {parts : List (List V)}, (∀ p ∈ parts, Ty P e p) → ∃ l : List UInt8, parts.flatten = bys l ∧ l.length = parts.length
  | [], _ => ⟨[], rfl, rfl⟩
  | p :: parts, h => by
    obtain ⟨l, h1, h2⟩ := bytes_of he (parts := parts) (fun q hq => h q (by simp [hq]))
    obtain ⟨n, rfl, hw⟩ := Ty_int_of (h p (by simp)) he
    have hr : 0 ≤ n ∧ n < 256 := by
      simp only [Lit.wf, Bool.and_eq_true, decide_eq_true_eq] at hw
      rw [show IntKind.u8.min = 0 from rfl, show IntKind.u8.max = 255 from rfl] at hw
      omega
    refine ⟨UInt8.ofNat n.toNat :: l, ?_, by simp [h2]⟩
    have e1 : ((UInt8.ofNat n.toNat).toNat : Int) = n := by
      rw [UInt8.toNat_ofNat']
      omega
    rw [List.flatten_cons, h1]
    show V.int .u8 n :: bys l = u8 ((UInt8.ofNat n.toNat).toNat : Int) :: bys l
    rw [e1]

theorem sec_of {t e : TypeId} {vs : List V} (h : Ty P t vs) (hu : P.underlying t = some (.array 32 e)) (he : P.underlying e = some (.int .u8)) : ∃ l : List UInt8, vs = bys l ∧ l.length = 32 := by
  obtain ⟨parts, rfl, hl, hp⟩ := Ty_arr_of h hu
  obtain ⟨l, h1, h2⟩ := bytes_of he hp
  exact ⟨l, h1, by rw [h2, hl]⟩

end
end Spec
end Go.AM
