/-
  Values that nobody writes from now on: the blocks of their lists are given up; a call that only looks.
-/
import Derived.Test.YtehbmajjoolcnaaGreatMg
import Derived.Test.YtehbmajjoolcnaaGreatCallh
set_option linter.unusedVariables false
set_option linter.unusedSimpArgs false
namespace Go.AM
def Own.drop (ρ : Own) (i : Nat) : Own
 | .blk q => if q = i then none else ρ (.blk q)
 | .cell q j => if q = i then none else ρ (.cell q j)
 | .slot s => ρ (.slot s)
 | .arg j => ρ (.arg j)
 | .fr f => ρ (.fr f)
theorem drop_up {ρ : Own} {i : Nat} : ∀ k p, ρ.drop i k = some p → ρ k = some p := by
 intro k p h
 cases k with
 | blk q =>
  simp only [Own.drop] at h
  split at h
  ·cases h
  ·exact h
 | cell q j =>
  simp only [Own.drop] at h
  split at h
  ·cases h
  ·exact h
 | slot s => exact h
 | arg j => exact h
 | fr f => exact h
structure Frz (ι : Places) (ρ ρ' : Own) (H H' : Heap) : Prop where
 up : ∀ k p, ρ' k = some p → ρ k = some p
 slot : ∀ s, ρ' (.slot s) = ρ (.slot s)
 arg : ∀ s, ρ' (.arg s) = ρ (.arg s)
 fr : ∀ s, ρ' (.fr s) = ρ (.fr s)
 len : H'.length = H.length
 each : ∀ i, (H'[i]? = H[i]? ∧ ρ' (.blk i) = ρ (.blk i) ∧ ∀ j, ρ' (.cell i j) = ρ (.cell i j)) ∨
  (H'[i]? = some none ∧ ρ' (.blk i) = none ∧ (∀ j, ρ' (.cell i j) = none) ∧ (∃ cs, H[i]? = some (some cs)) ∧ ∃ b base, ι[i]? = some (.blk b base))
theorem Frz.refl (ι : Places) (ρ : Own) (H : Heap) : Frz ι ρ ρ H H := ⟨fun _ _ h => h, fun _ => rfl, fun _ => rfl, fun _ => rfl, rfl, fun _ => .inl ⟨rfl, rfl, fun _ => rfl⟩⟩
theorem Frz.trans {ι : Places} {ρ ρ1 ρ2 : Own} {H H1 H2 : Heap} (h : Frz ι ρ ρ1 H H1) (h' : Frz ι ρ1 ρ2 H1 H2) : Frz ι ρ ρ2 H H2 := by
 refine ⟨fun k p hk => h.up k p (h'.up k p hk), fun s => (h'.slot s).trans (h.slot s), fun s => (h'.arg s).trans (h.arg s), fun s => (h'.fr s).trans (h.fr s), h'.len.trans h.len, fun i => ?_⟩
 rcases h'.each i with ⟨a1, a2, a3⟩ | ⟨a1, a2, a3, ⟨cs, a4⟩, a5⟩ <;> rcases h.each i with ⟨b1, b2, b3⟩ | ⟨b1, b2, b3, b4, b5⟩
 ·exact .inl ⟨a1.trans b1, a2.trans b2, fun j => (a3 j).trans (b3 j)⟩
 ·exact .inr ⟨a1.trans b1, a2.trans b2, fun j => (a3 j).trans (b3 j), b4, b5⟩
 ·exact .inr ⟨a1, a2, a3, ⟨cs, by rw [← b1]; exact a4⟩, a5⟩
 ·rw [b1] at a4; cases a4
section
variable {P : Program} {E : LblP} {nt : Cx} {φ : Fr} {H : Heap} {ρ : Own} {ι : Places} {a : Act} {w : World} {o : Oper} {call : CallF}
theorem Mem.drop (m : Mem E H ι ρ w) {i b base : Nat} (hp : ι[i]? = some (.blk b base)) : Mem E (H.set i none) ι (ρ.drop i) w := by
 have hne : ∀ {j : Nat} {vs : List V}, (H.set i none)[j]? = some (some vs) → j ≠ i ∧ H[j]? = some (some vs) := by
  intro j vs h
  by_cases hj : j = i
  ·subst hj
   rw [List.getElem?_set] at h
   simp only [if_true] at h
   split at h <;> cases h
  ·exact ⟨hj, by rwa [List.getElem?_set_ne (by omega)] at h⟩
 have hf : ∀ b o, foot (ρ.drop i) b o → foot ρ b o := foot_sub drop_up
 have hb : ∀ {j : Nat}, j ≠ i → ρ.drop i (.blk j) = ρ (.blk j) := fun hj => by simp only [Own.drop, if_neg hj]
 have hc : ∀ {j : Nat} (q : Nat), j ≠ i → ρ.drop i (.cell j q) = ρ (.cell j q) := fun q hj => by simp only [Own.drop, if_neg hj]
 refine ⟨by simp [m.len], fun j vs h hl => ?_, fun j vs l h hl => ?_, fun j h => ?_, fun j vs q h hq => ?_, m.glo.foot hf, fun N hN => by rw [List.length_set]; exact m.lim N hN⟩
 ·obtain ⟨hj, h0⟩ := hne h
  obtain ⟨b, base, c, t, fr, r1, r2, r3, r4, r5, r6⟩ := m.blk j vs h0 hl
  refine ⟨b, base, c, t, fr, r1, by rw [hb hj]; exact r2, r3, r4, r5, fun q v hv => ?_⟩
  obtain ⟨x, q1, q2, q3⟩ := r6 q v hv
  exact ⟨x, q1, by rw [hc q hj]; exact q2.anti hf, q3⟩
 ·obtain ⟨hj, h0⟩ := hne h
  exact (m.rcd j vs l h0 hl).mono (fun b o y h1 h2 => ⟨h1, fun h3 => h2 (hf _ _ h3)⟩) (fun _ _ h => h) (fun _ _ h => h) (hb hj) (fun q => hc q hj) (fun _ _ _ _ _ => rfl)
 ·by_cases hj : j = i
  ·subst hj
   exact ⟨by simp [Own.drop], fun q => by simp [Own.drop]⟩
  ·rw [hb hj]
   have := m.dead j (fun vs hv => h vs (by rw [List.getElem?_set_ne (by omega)]; exact hv))
   exact ⟨this.1, fun q => by rw [hc q hj]; exact this.2 q⟩
 ·obtain ⟨hj, h0⟩ := hne h
  rw [hc q hj]
  exact m.past j vs q h0 hq
theorem R.anti {F F' : Nat → Nat → Prop} {v : V} {x : Value} (h : AM.R w F ι v x) (hf : ∀ b o, F' b o → F b o) : AM.R w F' ι v x :=
 h.mono (fun b o y h1 h2 => ⟨h1, fun h => h2 (hf _ _ h)⟩) (fun _ _ h => h) (fun _ _ h => h)
theorem PR.anti {F F' : Nat → Nat → Prop} {v : V} {x : Value} (h : PR w F v x) (hf : ∀ b o, F' b o → F b o) : PR w F' v x :=
 h.mono (fun b o y h1 h2 => ⟨h1, fun h => h2 (hf _ _ h)⟩)
theorem StA.frz {us : List V} {xs : List Value} (s : StA E nt φ H ρ ι a w us xs) {ρ' : Own} {H' : Heap} (z : Frz ι ρ ρ' H H') (m : Mem E H' ι ρ' w) : StA E nt φ H' ρ' ι a w us xs ∧ Goes ρ ι w ρ' ι w := by
 have hF := foot_sub z.up
 refine ⟨⟨s.sz, s.df, fun q => by rw [z.slot]; exact (s.sl q).anti hF, s.al, fun j v x hv hx => by rw [z.arg]; exact (s.ar j v x hv hx).anti hF, fun j hj => by rw [z.arg]; exact s.an j hj, m, s.sep.sub z.up, s.wd⟩, Goes.sub ι w z.up z.fr⟩
end
end Go.AM
