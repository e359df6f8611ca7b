/-
  Copying into, and clearing, cells of our own.
-/
import Derived.Test.YtehbmajjoolcnaaGreatOpX
set_option linter.unusedVariables false
set_option linter.unusedSimpArgs false
namespace Go.AM
section
variable {P : Program} {E : LblP} {nt : Cx} {φ : Fr} {H : Heap} {ρ : Own} {ι : Places} {a : Act} {w : World} {o : Oper}
theorem set_same {H : Heap} {i : Nat} {c : Option (List V)} (h : H[i]? = some c) : H.set i c = H := by
 apply List.ext_getElem?
 intro j
 by_cases hj : i = j
 ·subst hj
  rw [List.getElem?_set_self (get_some h), h]
 ·rw [List.getElem?_set_ne hj]
theorem StA.over (s : StA E nt φ H ρ ι a w [] []) {i b base off : Nat} {cs vs : List V} {xs : Array Value} (hi : H[i]? = some (some cs)) (hp : ι[i]? = some (.blk b base)) (hs : off + vs.length ≤ cs.length)
  (hv : vs.all V.plain = true) (hc : Cells w (foot ρ) ι vs xs) :
  ∃ w' ρ', (storeCells ⟨b, base + off, none⟩ xs.toList).run P w = .ok () w' ∧ StA E nt φ (H.set i (some (setMany cs off vs))) ρ' ι a w' [] [] ∧ Goes ρ ι w ρ' ι w' := by
 obtain ⟨hbi, c, ty, fr, hrow, hsz, hfz, _⟩ := s.mem.at hi hp
 have hone : ∀ (j : Nat) (v : V) (z : Value), vs[j]? = some v → xs[j]? = some z → R w (foot ρ) ι v z ∧ z.oneCell' = true ∧ E.fit i v := fun j v z h1 h2 => by
  have h3 := hc.2 j v z h1 h2
  have h4 : v.plain = true := by simpa using List.all_eq_true.1 hv v (List.mem_of_getElem? h1)
  exact ⟨h3, one_cell h3 (plain_one h4), LblP.fit_of ((plain_PR h3 h4).under _)⟩
 have hl : xs.size = vs.length := hc.1
 obtain ⟨w', run, hw⟩ := run_storeCells (P := P) xs.toList (base + off) 0 w c ty fr hrow (by simp; omega) (fun o h1 h2 => hfz o (by omega) h2) (fun z hz => by
  obtain ⟨j, hj⟩ := List.getElem?_of_mem hz
  have hlt : j < vs.length := by have := get_some hj; simp at this; omega
  exact (hone j vs[j] z (by simp) (by simpa using hj)).2.1)
 rw [Nat.add_zero] at hw
 obtain ⟨ρ2, s2, g2⟩ := s.store (vs := vs) (by simp) hi hp hw (by simpa using hl) hs (T := none) (fun p h => by cases h) (fun j v z h1 h2 => by
  obtain ⟨h3, _, h5⟩ := hone j v z h1 (by simpa using h2)
  refine ⟨?_, h5⟩
  split
  ·exact h3.RL
  ·exact h3.RL)
 exact ⟨w', ρ2, run, s2, g2⟩
end
end Go.AM
