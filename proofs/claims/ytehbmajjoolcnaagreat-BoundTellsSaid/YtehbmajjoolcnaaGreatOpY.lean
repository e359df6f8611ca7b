/-
  Bytes and strings; a block that nobody writes any more; copies and clears.
-/
import Derived.Test.YtehbmajjoolcnaaGreatOpX
set_option linter.unusedVariables false
set_option linter.unusedSimpArgs false
namespace Go.AM
section
variable {P : Program} {E : LblP} {nt : Cx} {φ : Fr} {H : Heap} {ρ : Own} {ι : Places} {a : Act} {w : World} {o : Oper}
theorem StA.freeze (s : StA E nt φ H ρ ι a w [] []) {k : Nat} {rows : List (List V)} {i n : Nat} {y : Value} (hR : AM.R w (foot ρ) ι (.mix k rows i n) y) {cs : List V} (hi : H[i]? = some (some cs)) (hle : n * k ≤ cs.length) (hp : cs.all V.plain = true) :
  ∃ ρ2, StA E nt φ (H.set i none) ρ2 ι a w [.own k (rows ++ chunk k (allStrip cs) 0 n)] [y] ∧ Goes ρ ι w ρ2 ι w := by
 obtain ⟨b, off, cap, hpi, hlc, hP, hcap, rfl⟩ := hR.mix_inv
 obtain ⟨hbi, c, t, fr, hrow, hsz, hfz, hcells⟩ := s.mem.at hi hpi
 have hil := get_some hi
 let ρ' : Own := fun l => match l with
  | .blk q => if q = i then none else ρ (.blk q)
  | .cell q j => if q = i then none else ρ (.cell q j)
  | .arg j => if j = 0 then some (b, off + (rows.length + n) * k) else ρ (.arg j)
  | l => ρ l
 have hmul := Nat.add_mul rows.length n k
 have hup : ∀ l p, ρ' l = some p → (l = .arg 0 ∧ p = (b, off + (rows.length + n) * k)) ∨ (l ≠ .arg 0 ∧ ρ l = some p ∧ l ≠ .blk i) := by
  intro l p h
  cases l with
  | blk q =>
   simp only [ρ'] at h
   split at h
   ·cases h
   ·exact .inr ⟨by simp, h, by simpa using ‹_›⟩
  | cell q j =>
   simp only [ρ'] at h
   split at h
   ·cases h
   ·exact .inr ⟨by simp, h, by simp⟩
  | slot q => exact .inr ⟨by simp, h, by simp⟩
  | fr q => exact .inr ⟨by simp, h, by simp⟩
  | arg j =>
   simp only [ρ'] at h
   split at h
   ·subst_vars; exact .inl ⟨rfl, by simpa using h.symm⟩
   ·exact .inr ⟨by simpa using ‹_›, h, by simp⟩
 have g : Goes ρ ι w ρ' ι w := by
  refine .of (.refl _ _) (fun _ _ h => h) (fun l b' q hm h => ?_) (fun _ => rfl) (fun b _ => .refl b w)
  rcases hup l _ h with ⟨_, h1⟩ | ⟨_, h1, _⟩
  ·simp only [Prod.mk.injEq] at h1
   obtain ⟨rfl, rfl⟩ := h1
   exact .inr ⟨.blk i, _, rfl, hbi, by omega⟩
  ·exact .inr ⟨l, q, hm, h1, Nat.le_refl _⟩
 have hnb : ∀ o, foot ρ' b o → off + (rows.length + n) * k ≤ o := by
  rintro o ⟨l, q, hl, hq⟩
  rcases hup l _ hl with ⟨_, h1⟩ | ⟨_, h1, h2⟩
  ·simp only [Prod.mk.injEq] at h1; omega
  ·exact absurd (s.sep.one _ _ _ _ _ h1 hbi) h2
 have m' : Mem E (H.set i none) ι ρ' w := by
  refine ⟨by simp [s.mem.len], fun q vs hq hne => ?_, fun q vs l hq hl => ?_, fun q hq => ?_, fun q vs j hq hj => ?_, s.mem.glo.ext g, fun N hN => by rw [List.length_set]; exact s.mem.lim N hN⟩
  ·have hqi : q ≠ i := by
    rintro rfl
    rw [List.getElem?_set_self hil] at hq; cases hq
   rw [List.getElem?_set_ne (by omega)] at hq
   obtain ⟨b1, base1, c1, t1, fr1, q1, q2, q3, q4, q5, q6⟩ := s.mem.blk q vs hq hne
   refine ⟨b1, base1, c1, t1, fr1, q1, by simp only [ρ']; rw [if_neg hqi]; exact q2, q3, q4, q5, fun j v hv => ?_⟩
   obtain ⟨z, r1, r2, r3⟩ := q6 j v hv
   exact ⟨z, r1, by simp only [ρ']; rw [if_neg hqi]; exact r2.ext g (by simp only [ρ']; rw [if_neg hqi]), r3⟩
  ·have hqi : q ≠ i := by
    rintro rfl
    exact not_lp hpi l hl
   rw [List.getElem?_set_ne (by omega)] at hq
   exact (s.mem.rcd q vs l hq hl).ext g (by simp only [ρ']; rw [if_neg hqi]) (fun j => by simp only [ρ']; rw [if_neg hqi]) (fun _ _ _ _ _ => rfl)
  ·by_cases hqi : q = i
   ·simp [ρ', hqi]
   ·have := s.mem.dead q (fun vs hv => hq vs (by rw [List.getElem?_set_ne (by omega)]; exact hv))
    simp only [ρ']; simp only [hqi, if_false]; exact this
  ·have hqi : q ≠ i := by
    rintro rfl
    rw [List.getElem?_set_self hil] at hq; cases hq
   rw [List.getElem?_set_ne (by omega)] at hq
   simp only [ρ']; rw [if_neg hqi]
   exact s.mem.past q vs j hq hj
 refine ⟨ρ', ⟨s.sz, s.df, fun q => (s.sl q).ext (k := .slot q) g rfl, rfl, fun j v x hv hx => ?_, fun j hj => ?_, m', ⟨fun l l' b1 q q' h h' => ?_, fun l b1 q h => ?_⟩, s.wd⟩, g⟩
 ·cases j with
  | succ j => simp at hv
  | zero =>
   simp at hv hx; subst hv; subst hx
   have hcl := chunk_length n k (allStrip cs) 0
   have hw := chunk_width (n := n) (k := k) (cs := allStrip cs) (off := 0) (by simpa [allStrip] using hle)
   have hlen : (rows ++ chunk k (allStrip cs) 0 n).length = rows.length + n := by simp [hcl]
   have hPR := (hP.ext g).append (new := chunk k (allStrip cs) 0 n) hw (by rw [hcl]; exact hlc) (fun q j r v hq hj => by
    obtain ⟨_, _, h5⟩ := chunk_cell hq hj
    simp only [allStrip, List.getElem?_map, Option.map_eq_some_iff] at h5
    obtain ⟨u, hu, rfl⟩ := h5
    obtain ⟨y, h6, h7, _⟩ := hcells _ u hu
    have hpu : u.plain = true := List.all_eq_true.1 hp u (List.mem_of_getElem? hu)
    have hne : ∀ k r, u ≠ .own k r := by rintro k r rfl; cases hpu
    have hqn := get_some hq
    rw [hcl] at hqn
    have h8 := Nat.add_mul rows.length q k
    have h9 := Nat.mul_le_mul_right k (show q + 1 ≤ n by omega)
    rw [Nat.add_mul] at h9
    have hjk : j < k := by have := hw r (List.mem_of_getElem? hq); have := get_some hj; omega
    refine ⟨y, by rw [cell_of_obj hrow, show off + (rows.length + q) * k + j = off + rows.length * k + (0 + q * k + j) by omega]; exact h6, fun hff => ?_, ?_⟩
    ·have := hnb _ hff; omega
    ·exact (plain_PR ((RL_other hne).1 h7).1 hpu).strip.ext g)
   rw [hcl] at hPR
   refine ⟨hPR, some ⟨b, off, none⟩, cap, by rw [hlen], ?_⟩
   have e1 : ρ' (.arg 0) = some (b, off + (rows.length + n) * k) := by simp [ρ']
   rw [e1]
   obtain ⟨c2, t2, fr2, h1, h2⟩ := hcap
   rw [hrow] at h1
   simp only [Option.some.injEq, Obj.cells.injEq] at h1
   obtain ⟨rfl, rfl, rfl⟩ := h1
   exact ⟨off, c, t, fr, rfl, by rw [hlen], hrow, h2, fun o h1 h2 => hfz o (by omega) h2⟩
 ·simp at hj
  simp only [ρ']; rw [if_neg (by omega)]; exact s.an j (by simp)
 ·rcases hup l _ h with ⟨rfl, h1⟩ | ⟨q1, h1, q2⟩ <;> rcases hup l' _ h' with ⟨rfl, h2⟩ | ⟨q3, h2, q4⟩
  ·rfl
  ·simp only [Prod.mk.injEq] at h1; obtain ⟨rfl, _⟩ := h1; exact absurd (s.sep.one _ _ _ _ _ h2 hbi) q4
  ·simp only [Prod.mk.injEq] at h2; obtain ⟨rfl, _⟩ := h2; exact absurd (s.sep.one _ _ _ _ _ h1 hbi) q2
  ·exact s.sep.one _ _ _ _ _ h1 h2
 ·rcases hup l _ h with ⟨_, h1⟩ | ⟨_, h1, _⟩
  ·simp only [Prod.mk.injEq] at h1; obtain ⟨rfl, _⟩ := h1; exact lt_of_obj hrow
  ·exact s.sep.here _ _ _ h1
theorem frzMix_inv {H : Heap} {v u : V} {H' : Heap} (h : frzMix H v = some (u, H')) : ∃ k rows i n cs, v = .mix k rows i n ∧ H[i]? = some (some cs) ∧ n * k ≤ cs.length ∧ cs.all V.plain = true ∧ u = .own k (rows ++ chunk k (allStrip cs) 0 n) ∧ H' = H.set i none := by
 unfold frzMix at h
 split at h
 ·split at h
  ·split at h
   ·rename_i hh
    simp only [Option.some.injEq, Prod.mk.injEq] at h
    obtain ⟨rfl, rfl⟩ := h
    exact ⟨_, _, _, _, _, rfl, ‹_›, hh.1, hh.2, rfl, rfl⟩
   ·cases h
  ·cases h
 ·cases h
theorem stf_ok (s : StA E nt φ H ρ ι a w [] []) {X Y : Operand} {x y : AX} (hx : chkX X x = true) (hy : chkX Y y = true) {t : TypeId} (ht : sizeIs P t 1 = true) (ho : o.op = .store t X Y) {i off : Nat} {cs : List V} {u : V} {H' : Heap} (hr : rd φ x = .ptr i off)
  (h : frzMix H (rd φ y) = some (u, H')) (hi : H'[i]? = some (some cs)) (hs : off + 1 ≤ cs.length) :
  Runs P o a w (After E nt φ (H'.set i (some (setMany cs off [u]))) .undef ρ ι a w) := by
 obtain ⟨k, rows, i2, n, ds, e, hi2, hle, hp, rfl, rfl⟩ := frzMix_inv h
 obtain ⟨ρ1, s1, g1⟩ := s.freeze (e ▸ rd_ok s hy) hi2 hle hp
 obtain ⟨b, base, hpp, eX⟩ := (hr ▸ rd_ok s hx).ptr_inv
 obtain ⟨hbi, c, ty, fr, hrow, hsz, hfz, _⟩ := s1.mem.at hi hpp
 have hRL := s1.ar 0 _ _ rfl rfl
 have hcells : (a.eval Y).cells = #[a.eval Y] := slice_cells hRL.1
 have hone : (a.eval Y).oneCell' = true := by
  obtain ⟨_, ad, cap, e2, _⟩ := hRL
  rw [e2]; rfl
 obtain ⟨w', run, hw⟩ := run_storeCells (P := P) [a.eval Y] (base + off) 0 w c ty fr hrow (by simp; omega) (fun o h1 h2 => hfz o (by omega) h2) (fun z hz => by simp at hz; rw [hz]; exact hone)
 rw [Nat.add_zero] at hw
 obtain ⟨ρ2, s2, g2⟩ := s1.store (vs := [.own k (rows ++ chunk k (allStrip ds) 0 n)]) (by simp) hi hpp hw rfl (by simpa using hs) (T := ρ1 (.arg 0)) (fun p h => h) (fun j v z hv hz => by
  cases j with
  | zero => simp at hv hz; subst hv; subst hz; exact ⟨by simpa using hRL, LblP.fit_of rfl⟩
  | succ j => simp at hv)
 refine .inr (.inl ⟨w', ?_, ρ2, ι, s2.value (.undef _), g1.trans g2⟩)
 simp [execOp, ho, eX, Instr.storeAt, Instr.sureAddr, storeVar, run_sizeOf ht, hcells, run]
end
end Go.AM
