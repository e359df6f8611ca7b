/-
  A site that is an argument, as data.
-/
import Derived.Test.YtjbedlhjjhnciaaDoorTyl
import Derived.Test.YtjbedlhjjhnciaaDoorSiteA
namespace Go.AM.Spec
set_option linter.unusedVariables false
set_option linter.unusedSimpArgs false

theorem site_of {P : Program} {t tI tA : TypeId} {fs : Array Field} {vs : List V} (h : Ty P t vs) (hu : P.underlying t = some (.struct fs)) (hf : fs.toList.map (·.type) = [tI, tI, tA, tI]) (hI : P.underlying tI = some (.int .i64)) (hA : P.underlying tA = some (.array 8 tI)) :
    ∃ s : Si, vs = s.cells ∧ s.ok ∧ Fit s.kind ∧ Fit s.part ∧ (∀ w ∈ s.way, Fit w) ∧ Fit s.deep := by
  obtain ⟨parts, rfl, hL⟩ := Ty_struct_of h hu
  rw [hf] at hL
  obtain ⟨p, q, r, u, rfl, h0, h1, h2, h3⟩ := TyL_4 hL
  obtain ⟨a, rfl, w0⟩ := Ty_int_of h0 hI
  obtain ⟨b, rfl, w1⟩ := Ty_int_of h1 hI
  obtain ⟨d, rfl, w3⟩ := Ty_int_of h3 hI
  obtain ⟨ps, rfl, hl, hp⟩ := Ty_arr_of h2 hA
  obtain ⟨l, e1, e2, e3⟩ := ints_of hI hp
  refine ⟨⟨a, b, l, d⟩, ?_, by show l.length = 8; omega, w0, w1, e3, w3⟩
  simp only [List.flatten_cons, List.flatten_nil, e1, Si.cells]
  rfl

end Go.AM.Spec
