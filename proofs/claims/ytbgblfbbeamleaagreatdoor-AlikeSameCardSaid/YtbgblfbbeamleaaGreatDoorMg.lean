/-
  Lists whose rows can be written and that grow: an append; a store without a bound; the wide forms of functions are called.
-/
import Derived.Test.YtbgblfbbeamleaaGreatDoorCalm
import Derived.Test.YtbgblfbbeamleaaGreatDoorCom
set_option linter.unusedVariables false
set_option linter.unusedSimpArgs false
namespace Go.AM

/-- The owners behind a list's move to a block of its own. -/
def Own.moved (ρ : Own) (i n off m : Nat) (p : Nat × Nat) : Own
  | .blk q => if q = n then some p else if q = i then none else ρ (.blk q)
  | .cell q j => if q = n then (if j < m then ρ (.cell i (off + j)) else none) else if q = i then none else ρ (.cell q j)
  | .arg _ => none
  | .slot s => ρ (.slot s)
  | .fr f => ρ (.fr f)

theorem moved_inv {ρ : Own} {i n off m : Nat} {p q : Nat × Nat} {l : Key} (h : ρ.moved i n off m p l = some q) :
    (l = .blk n ∧ q = p) ∨ (∃ j, j < m ∧ l = .cell n j ∧ ρ (.cell i (off + j)) = some q) ∨ (l ≠ .blk n ∧ (∀ j, l ≠ .cell n j) ∧ l ≠ .blk i ∧ (∀ j, l ≠ .cell i j) ∧ (∀ j, l ≠ .arg j) ∧ ρ l = some q) := by
  cases l with
  | blk r =>
    simp only [Own.moved] at h
    split at h
    · rename_i e; subst e; exact .inl ⟨rfl, by simpa using h.symm⟩
    · rename_i e1
      split at h
      · cases h
      · rename_i e2; exact .inr (.inr ⟨by simpa using e1, by simp, by simpa using e2, by simp, by simp, h⟩)
  | cell r j =>
    simp only [Own.moved] at h
    split at h
    · rename_i e; subst e
      split at h
      · rename_i hj; exact .inr (.inl ⟨j, hj, rfl, h⟩)
      · cases h
    · rename_i e1
      split at h
      · cases h
      · rename_i e2
        exact .inr (.inr ⟨by simp, fun j' h' => (by injection h' with h1 h2; exact e1 h1), by simp, fun j' h' => (by injection h' with h1 h2; exact e2 h1), by simp, h⟩)
  | arg j => cases h
  | slot s => exact .inr (.inr ⟨by simp, by simp, by simp, by simp, by simp, h⟩)
  | fr f => exact .inr (.inr ⟨by simp, by simp, by simp, by simp, by simp, h⟩)

section
variable {P : Program} {E : LblP} {nt : Cx} {φ : Fr} {H : Heap} {ρ : Own} {ι : Places} {a : Act} {w : World} {o : Oper} {call : CallF}

/-- A list's rows move to a block of their own, and more stand behind them. -/
theorem StA.regrow {us0 : List V} {zs0 : List Value} (s : StA E nt φ H ρ ι a w us0 zs0) (hE : E.lim = none) {i b base off m : Nat} {cs : List V}
    (hi : (H[i]? = some (some cs) ∧ ι[i]? = some (.blk b base) ∧ off + m ≤ cs.length) ∨ (H.length < i ∧ m = 0 ∧ b = w.heap.size))
    {us : List V} {ys : List Value} (hl : ys.length = us.length) (hR : ∀ (j : Nat) (v : V) (y : Value), us[j]? = some v → ys[j]? = some y → AM.R w (foot ρ) ι v y)
    {w' : World} {b' base' : Nat} (hkp : Kp (afoot ρ) w w') (hpl : (b' = b ∧ base ≤ base' ∧ H[i]? = some (some cs)) ∨ w.heap.size ≤ b')
    {c' : Array Value} {t' : TypeId} {fr' : Nat × Nat} (hobj : w'.heap[b']? = some (.cells c' t' fr')) (hsz : base' + (m + us.length) ≤ c'.size) (hfz : ∀ o, base' ≤ o → o < c'.size → w'.frozen? ⟨b', o, none⟩ = false)
    (hold : ∀ (j : Nat) (x : Value), j < m → w.cell? ⟨b, base + off + j, none⟩ = some x → c'[base' + j]? = some x) (hnew : ∀ (j : Nat) (y : Value), ys[j]? = some y → c'[base' + (m + j)]? = some y)
    (hother : ∀ q, q ≠ b → q < w.heap.size → w'.heap[q]? = w.heap[q]?) (hmk : ∀ q, q < w.heap.size → Marks0 q w w') :
    ∃ ρ', StA E nt φ (H.set i none ++ [some ((cs.drop off).take m ++ us)]) ρ' (ι ++ [.blk b' base']) a w' [] [] ∧ Goes ρ ι w ρ' (ι ++ [.blk b' base']) w' := by
  have hlen := s.mem.len
  have hdead := s.mem.dead H.length (by simp)
  have hin : i ≠ H.length := by
    rcases hi with ⟨h1, _, _⟩ | ⟨h1, _, _⟩
    · have := get_some h1; omega
    · omega
  have hbi : ∀ q b1 n1, q ≠ .blk i → ρ q = some (b1, n1) → b1 ≠ b := by
    intro q b1 n1 hq hb1 e
    subst e
    rcases hi with ⟨h1, h2, _⟩ | ⟨_, _, h3⟩
    · exact hq (s.sep.one _ _ _ _ _ hb1 (s.mem.at h1 h2).1)
    · have := s.sep.here _ _ _ hb1; omega
  have hmc : m ≤ cs.length - off := by
    rcases hi with ⟨_, _, h3⟩ | ⟨_, h3, _⟩ <;> omega
  have hvl : ((cs.drop off).take m).length = m := by rw [List.length_take, List.length_drop]; omega
  have g : Goes ρ ι w (ρ.moved i H.length off m (b', base')) (ι ++ [.blk b' base']) w' := by
    refine ⟨hkp, fun q p h => by rw [List.getElem?_append_left (get_some h)]; exact h, fun k b1 n1 hm h => ?_, fun _ => rfl, fun k b1 n1 _ hb => hmk b1 hb⟩
    rcases moved_inv h with ⟨_, h1⟩ | ⟨j, _, _, h1⟩ | ⟨_, _, _, _, _, h1⟩
    · simp only [Prod.mk.injEq] at h1
      obtain ⟨rfl, rfl⟩ := h1
      rcases hpl with ⟨rfl, h2, h3⟩ | h2
      · rcases hi with ⟨h4, h5, _⟩ | ⟨h4, _, _⟩
        · exact .inr ⟨.blk i, base, rfl, (s.mem.at h4 h5).1, h2⟩
        · have := get_some h3; omega
      · exact .inl h2
    · exact .inr ⟨_, n1, rfl, h1, Nat.le_refl _⟩
    · exact .inr ⟨k, n1, hm, h1, Nat.le_refl _⟩
  have hget : ∀ q, q < H.length → (H.set i none ++ [some ((cs.drop off).take m ++ us)])[q]? = if q = i then some none else H[q]? := by
    intro q hq
    rw [List.getElem?_append_left (by rw [List.length_set]; exact hq)]
    by_cases hqi : q = i
    · subst hqi; rw [if_pos rfl, List.getElem?_set_self hq]
    · rw [if_neg hqi, List.getElem?_set_ne (fun h => hqi h.symm)]
  have hnew' : (H.set i none ++ [some ((cs.drop off).take m ++ us)])[H.length]? = some (some ((cs.drop off).take m ++ us)) := by
    rw [List.getElem?_append_right (by simp)]; simp
  have hpn : (ι ++ [Place.blk b' base'])[H.length]? = some (.blk b' base') := by rw [← hlen]; simp
  refine ⟨ρ.moved i H.length off m (b', base'), ⟨s.sz, s.df.kp hkp, fun q => (s.sl q).ext (k := .slot q) g rfl, rfl, fun j v x h => by simp at h, fun j _ => rfl, ⟨by simp [hlen], fun q vs hq hne => ?_, fun q vs l hq hl' => ?_, fun q hq => ?_, fun q vs j hq hj => ?_, s.mem.glo.ext g, fun N hN => by rw [hE] at hN; cases hN⟩, ⟨fun l l' b1 n1 n1' h h' => ?_, fun l b1 n1 h => ?_⟩, s.wd⟩, g⟩
  · rcases Nat.lt_trichotomy q H.length with h | h | h
    · rw [hget q h] at hq
      split at hq
      · cases hq
      · rename_i hqi
        obtain ⟨b1, base1, c1, t1, fr1, r1, r2, r3, r4, r5, r6⟩ := s.mem.blk q vs hq (fun l hl => hne l (by rw [List.getElem?_append_left (by omega)]; exact hl))
        have hb1 := hbi _ _ _ (by simpa using hqi) r2
        refine ⟨b1, base1, c1, t1, fr1, g.io _ _ r1, by simp only [Own.moved]; rw [if_neg (by omega), if_neg hqi]; exact r2, by rw [hother _ hb1 (lt_of_obj r3)]; exact r3, r4, fun o h1 h2 => by rw [hmk b1 (lt_of_obj r3)]; exact r5 o h1 h2, fun j v hj => ?_⟩
        obtain ⟨x, q1, q2, q3⟩ := r6 j v hj
        have hk : ρ.moved i H.length off m (b', base') (.cell q j) = ρ (.cell q j) := by simp only [Own.moved]; rw [if_neg (by omega), if_neg hqi]
        exact ⟨x, q1, by rw [hk]; exact q2.ext g hk, LblP.fit_none hE _ _⟩
    · subst h
      rw [hnew'] at hq
      simp only [Option.some.injEq] at hq
      subst hq
      refine ⟨b', base', c', t', fr', hpn, by simp [Own.moved], hobj, by rw [List.length_append, hvl]; exact hsz, hfz, fun j v hj => ?_⟩
      by_cases hjm : j < m
      · rw [List.getElem?_append_left (by omega), List.getElem?_take_of_lt hjm, List.getElem?_drop] at hj
        have hex : H[i]? = some (some cs) ∧ ι[i]? = some (.blk b base) := by
          rcases hi with ⟨h1, h2, _⟩ | ⟨_, h2, _⟩
          · exact ⟨h1, h2⟩
          · omega
        obtain ⟨_, c, t, fr, hrow, _, _, hcl⟩ := s.mem.at hex.1 hex.2
        obtain ⟨x, q1, q2, _⟩ := hcl _ _ hj
        have hk : ρ.moved i H.length off m (b', base') (.cell H.length j) = ρ (.cell i (off + j)) := by simp [Own.moved, hjm]
        refine ⟨x, hold j x hjm ?_, ?_, LblP.fit_none hE _ _⟩
        · rw [cell_of_obj hrow, Nat.add_assoc]; exact q1
        · rw [hk]
          exact q2.extw g (fun p hp => ⟨.cell H.length j, by rw [hk]; exact hp⟩)
      · rw [List.getElem?_append_right (by omega), hvl] at hj
        have hju := get_some hj
        have hy : ys[j - m]? = some ys[j - m] := List.getElem?_eq_getElem (by omega)
        have hk : ρ.moved i H.length off m (b', base') (.cell H.length j) = none := by simp [Own.moved, hjm]
        refine ⟨ys[j - m], ?_, ?_, LblP.fit_none hE _ _⟩
        · have := hnew _ _ hy
          rwa [show m + (j - m) = j by omega] at this
        · rw [hk]; exact ((hR _ _ _ hj hy).ext g).RL
    · rw [List.getElem?_eq_none (by simp; omega)] at hq; cases hq
  · rcases Nat.lt_trichotomy q H.length with h | h | h
    · rw [hget q h] at hq
      split at hq
      · cases hq
      · rename_i hqi
        rw [List.getElem?_append_left (by omega)] at hl'
        have hkb : ρ.moved i H.length off m (b', base') (.blk q) = ρ (.blk q) := by simp only [Own.moved]; rw [if_neg (by omega), if_neg hqi]
        have hkc : ∀ j, ρ.moved i H.length off m (b', base') (.cell q j) = ρ (.cell q j) := fun j => by simp only [Own.moved]; rw [if_neg (by omega), if_neg hqi]
        refine (s.mem.rcd q vs l hq hl').ext g hkb hkc (fun k b1 n1 hk hb1 => hother _ (hbi k b1 n1 ?_ hb1) (s.sep.here _ _ _ hb1))
        rcases hk with rfl | ⟨j, rfl⟩
        · simpa using hqi
        · simp
    · subst h; rw [hpn] at hl'; cases hl'
    · rw [List.getElem?_eq_none (by simp; omega)] at hq; cases hq
  · have hqn : q ≠ H.length := by
      rintro rfl
      exact hq _ hnew'
    have hd : q ≠ i → ρ (.blk q) = none ∧ ∀ j, ρ (.cell q j) = none := fun hqi => s.mem.dead q (fun vs hv => hq vs (by rw [hget q (get_some hv), if_neg hqi]; exact hv))
    simp only [Own.moved, if_neg hqn]
    by_cases hqi : q = i
    · simp [hqi]
    · simp only [if_neg hqi]; exact hd hqi
  · simp only [Own.moved]
    by_cases hqn : q = H.length
    · subst hqn
      rw [hnew'] at hq
      simp only [Option.some.injEq] at hq
      subst hq
      rw [List.length_append, hvl] at hj
      rw [if_pos rfl, if_neg (by omega)]
    · rw [if_neg hqn]
      have hql : q < H.length := by have := get_some hq; simp at this; omega
      rw [hget q hql] at hq
      split at hq
      · cases hq
      · rename_i hqi
        rw [if_neg hqi]; exact s.mem.past q vs j hq hj
  · have fresh : ∀ k b2 n2, k ≠ .blk i → ρ k = some (b2, n2) → b2 ≠ b' := by
      intro k b2 n2 hk hb2 e
      subst e
      rcases hpl with ⟨rfl, _, _⟩ | h2
      · exact hbi _ _ _ hk hb2 rfl
      · have := s.sep.here _ _ _ hb2; omega
    rcases moved_inv h with ⟨rfl, h1⟩ | ⟨j, _, rfl, h1⟩ | ⟨_, _, e1, e2, _, h1⟩ <;> rcases moved_inv h' with ⟨rfl, h2⟩ | ⟨j', _, rfl, h2⟩ | ⟨_, _, e1', e2', _, h2⟩
    · rfl
    · simp only [Prod.mk.injEq] at h1; exact absurd h1.1 (fresh _ _ _ (by simp) h2)
    · simp only [Prod.mk.injEq] at h1; exact absurd h1.1 (fresh _ _ _ e1' h2)
    · simp only [Prod.mk.injEq] at h2; exact absurd h2.1 (fresh _ _ _ (by simp) h1)
    · have := s.sep.one _ _ _ _ _ h1 h2
      simp only [Key.cell.injEq, true_and] at this ⊢
      omega
    · exact absurd (s.sep.one _ _ _ _ _ h1 h2).symm (e2' _)
    · simp only [Prod.mk.injEq] at h2; exact absurd h2.1 (fresh _ _ _ e1 h1)
    · exact absurd (s.sep.one _ _ _ _ _ h1 h2) (e2 _)
    · exact s.sep.one _ _ _ _ _ h1 h2
  · rcases moved_inv h with ⟨_, h1⟩ | ⟨j, _, _, h1⟩ | ⟨_, _, _, _, _, h1⟩
    · simp only [Prod.mk.injEq] at h1; rw [h1.1]; exact lt_of_obj hobj
    · have := s.sep.here _ _ _ h1; have := hkp.size; omega
    · have := s.sep.here _ _ _ h1; have := hkp.size; omega

/-- The cells of a part of a block are loaded. -/
theorem first_cells {b base off k n : Nat} {c : Array Value} {t : TypeId} {fr : Nat × Nat} (hrow : w.heap[b]? = some (.cells c t fr)) {ad : Option Addr} {cap : Nat} (had : n ≠ 0 → ad = some ⟨b, base + off, none⟩) (hsz : base + off + n * k ≤ c.size) :
    ∃ old : Array Value, (Builtin.firstCells k n (.slice ad n cap)).run P w = .ok old w ∧ old.size = n * k ∧ ∀ j, j < n * k → old[j]? = c[base + off + j]? := by
  by_cases hn : n = 0
  · subst hn
    refine ⟨#[], ?_, by simp, fun j hj => by omega⟩
    cases ad with
    | none => simp [Builtin.firstCells]
    | some ad => simp [Builtin.firstCells, loadCells, loadCellsFrom]
  · obtain rfl := had hn
    have run := run_loadCells (P := P) w ⟨b, base + off, none⟩ (n * k) (fun j => c.getD (base + off + j) Go.undef) (fun j hj => by
      rw [add_eq, cell_of_obj hrow]
      simp only [Array.getD_eq_getD_getElem?]
      rw [Array.getElem?_eq_getElem (by omega)]; rfl)
    refine ⟨_, by simpa [Builtin.firstCells] using run, by simp, fun j hj => ?_⟩
    have : base + off + j < c.size := by omega
    simp [hj, this]

/-- What an append leaves that must lay a new row. -/
theorem apm_grow {v0 : V} {S X : Operand} (hE : E.lim = none) (s1 : StA E nt φ H ρ ι a w [v0] [a.eval S]) {x : AX} (hX : chkX X x = true) {ts : Array TypeId} {k bytes : Nat} (hc : chkApp P ts k bytes = true)
    (ho : o.op = .call { callee := .builtin .append, args := #[S, X], argTypes := ts }) {new : List (List V)} (hn : rowsOf H k (rd φ x) = some new) {i b base off len cap' : Nat} {cs : List V} {ad : Option Addr} (eS : a.eval S = .slice ad len cap') (had : len ≠ 0 → ad = some ⟨b, base + off, none⟩)
    (hi : (H[i]? = some (some cs) ∧ ι[i]? = some (.blk b base) ∧ off + len * k ≤ cs.length) ∨ (H.length < i ∧ len * k = 0 ∧ len = 0 ∧ b = w.heap.size)) (hin : cap' < len + new.length) (hb : 2 * (len + new.length) * bytes ≤ 2 ^ 48) (hb0 : 0 < bytes) :
    Runs P o a w (After E nt φ (H.set i none ++ [some ((cs.drop off).take (len * k) ++ new.flatten)]) (.mg k H.length 0 (len + new.length) (len + new.length)) ρ ι a w) := by
  have run0 : ∀ r, (Builtin.append_ ts o.type #[a.eval S, a.eval X]).run P w = r → (execOp a.eval o).run P w = r.andThen fun v w' => .ok (.value v) w' := by
    intro r hr
    simp only [execOp, ho, resolve, Sem.run_bind, Sem.run_pure, Result.andThen, invoke, builtin]
    have : (#[S, X] : Array Operand).map a.eval = #[a.eval S, a.eval X] := by simp
    rw [this, hr]
  rw [eS] at run0
  obtain ⟨hl, _, _⟩ := src_ok (P := P) s1 hX hn
  obtain ⟨ρ0, s0, g0⟩ := s1.drop (by simp)
  have kd := kp_drew (fun _ _ => False) w
  have gd : Goes ρ0 ι w ρ0 ι w.drew := .of (kp_drew _ w) (fun _ _ h => h) (fun l b q hm h => .inr ⟨l, q, hm, h, Nat.le_refl _⟩) (fun _ => rfl) (fun _ _ _ => rfl)
  have sD := s0.go gd (fun _ => rfl) (fun _ => rfl) (s0.mem.kp s0.sep kd (fun _ => rfl) (fun _ _ => rfl) gd) ⟨s0.sep.one, s0.sep.here⟩
  obtain ⟨_, hwD, hcellsD⟩ := src_ok (P := P) sD hX hn
  obtain ⟨ys, hfD, hysD⟩ := hcellsD new.length (Nat.le_refl _)
  rw [List.take_length] at hysD
  have hnl := flatten_len hwD
  have hold : ∃ old : Array Value, (Builtin.firstCells k len (.slice ad len cap')).run P w.drew = .ok old w.drew ∧ old.size = len * k ∧ ∀ (j : Nat) (x : Value), j < len * k → w.drew.cell? ⟨b, base + off + j, none⟩ = some x → old[j]? = some x := by
    rcases hi with ⟨h1, h2, h3⟩ | ⟨_, h2, h3, _⟩
    · obtain ⟨_, c, t, fr, hrow, hsz, _, _⟩ := sD.mem.at h1 h2
      obtain ⟨old, q1, q2, q3⟩ := first_cells (P := P) (w := w.drew) (k := k) (n := len) (cap := cap') hrow had (by omega)
      exact ⟨old, q1, q2, fun j x hj hx => by rw [q3 j hj]; rwa [cell_of_obj hrow] at hx⟩
    · subst h3
      refine ⟨#[], ?_, by simp, fun j x hj => by omega⟩
      cases ad with
      | none => simp [Builtin.firstCells]
      | some ad => simp [Builtin.firstCells, loadCells, loadCellsFrom]
  obtain ⟨old, hfo, hos, hoc⟩ := hold
  obtain ⟨e, c, rest, hc1, hc2, run1⟩ := run_app_grow (w := w) hc o.type ad len cap' new.length (a.eval X) old ys hl hfo hfD hin hb hb0
  have hxs : (old ++ ys ++ rest).size = c * k := by
    rw [Array.size_append, Array.size_append, hos, hysD.1, hnl, hc2, ← Nat.add_mul, ← Nat.add_mul]; congr 1; omega
  have hck : len * k + new.length * k ≤ c * k := by rw [← Nat.add_mul]; exact Nat.mul_le_mul_right k hc1
  have hys1 := hysD.1
  obtain ⟨ρ2, s2, g2⟩ := sD.regrow (m := len * k) hE (i := i) (b := b) (base := base) (off := off) (cs := cs) (by
      rcases hi with ⟨h1, h2, h3⟩ | ⟨h1, h2, h3, h4⟩
      · exact .inl ⟨h1, h2, h3⟩
      · exact .inr ⟨h1, h2, h4⟩) (us := new.flatten) (ys := ys.toList) (by simpa using hysD.1) (fun j v y h1 h2 => hysD.2 j v y h1 (by simpa using h2))
    (w' := w.drew.alloc (.cells (old ++ ys ++ rest) e)) (b' := w.heap.size) (base' := 0) (kp_alloc _ _ _) (.inr (Nat.le_refl _)) (heap_alloc_new w.drew _) (by rw [hxs, hnl]; omega) (fun o _ _ => World.frozen?_alloc_new _ _ _ o)
    (fun j x hj hx => by
      rw [Nat.zero_add, Array.append_assoc, Array.getElem?_append_left (by omega)]; exact hoc j x hj hx)
    (fun j y hy => by
      have hjl : j < ys.size := by have := get_some hy; simpa using this
      rw [Nat.zero_add, Array.append_assoc, Array.getElem?_append_right (by omega), hos, show len * k + j - len * k = j by omega, Array.getElem?_append_left hjl]
      simpa using hy)
    (fun q _ hq => Go.RowKit.Below.heap_alloc _ _ _ hq) (fun q hq => .of_eq (Go.RowKit.Below.heap_alloc _ _ _ hq))
  refine .value (.slice (some ⟨w.heap.size, 0, none⟩) (len + new.length) c) (by rw [run0 _ run1]; rfl) ⟨ρ2, _, s2.value ?_, (g0.trans gd).trans g2⟩
  refine .mg k _ 0 _ _ w.heap.size 0 c (some ⟨w.heap.size, 0, none⟩) (by rw [← s1.mem.len]; simp) (Nat.le_refl _) hc1 (fun _ => rfl) (fun h => by cases h) ⟨_, _, _, heap_alloc_new w.drew _, by rw [hxs]; omega⟩

theorem set_same {H : Heap} {i : Nat} {c : Option (List V)} (h : H[i]? = some c) : H.set i c = H := by
  apply List.ext_getElem?
  intro j
  by_cases hj : j = i
  · subst hj
    have := get_some h
    rw [List.getElem?_set_self this, h]
  · rw [List.getElem?_set_ne (fun h => hj h.symm)]

theorem Runs.mono {K K' : Value → World → Prop} (h : Runs P o a w K) (hk : ∀ x w1, K x w1 → K' x w1) : Runs P o a w K' := by
  rcases h with ⟨x, w1, h1, h2⟩ | ⟨w1, h1, h2⟩ | ⟨f, args, w0, h1, h2⟩ | ⟨l, f, tmps, assign, body, w0, h1, h2⟩
  · exact .inl ⟨x, w1, h1, hk _ _ h2⟩
  · exact .inr (.inl ⟨w1, h1, hk _ _ h2⟩)
  · exact .inr (.inr (.inl ⟨f, args, w0, h1, h2.mono (fun e w1 ⟨x, h3, h4⟩ => ⟨x, h3, hk _ _ h4⟩)⟩))
  · exact .inr (.inr (.inr ⟨l, f, tmps, assign, body, w0, h1, h2.mono (fun e w1 ⟨x, h3, h4⟩ => ⟨x, h3, hk _ _ h4⟩)⟩))

/-- An append to a list whose rows can be written. -/
theorem apm_ok (hE : E.lim = none) (s : StA E nt φ H ρ ι a w [] []) {S X : Operand} {sx x : AX} (hS : chkX S sx = true) (hX : chkX X x = true) {ts : Array TypeId} {k bytes : Nat} (hc : chkApp P ts k bytes = true)
    (ho : o.op = .call { callee := .builtin .append, args := #[S, X], argTypes := ts }) {new : List (List V)} (hn0 : rowsOf H k (rd φ x) = some new) {r : V × Heap} (h : appM H k bytes (takeX φ sx).1 new.length new.flatten = some r) :
    Runs P o a w (After E nt (takeX φ sx).2 r.2 r.1 ρ ι a w) := by
  obtain ⟨ρ1, s1, g1⟩ := take_ok s hS
  simp only [List.nil_append] at s1
  have hRv := s1.ar 0 _ _ rfl rfl
  have hn : rowsOf H k (rd (takeX φ sx).2 x) = some new := by rw [rd_take]; exact hn0
  have fin : ∀ {K : Heap} {v : V}, Runs P o a w (After E nt (takeX φ sx).2 K v ρ1 ι a w) → Runs P o a w (After E nt (takeX φ sx).2 K v ρ ι a w) := by
    intro K v hr
    exact hr.mono (fun y w1 ⟨ρ2, ι2, s2, g2⟩ => ⟨ρ2, ι2, s2, g1.trans g2⟩)
  refine fin ?_
  clear fin g1
  generalize (takeX φ sx).1 = v at h s1 hRv
  generalize (takeX φ sx).2 = φ1 at s1 hn ⊢
  unfold appM at h
  split at h
  · rename_i k' i off len cap
    split at h <;> try cases h
    rename_i hh
    obtain ⟨rfl, hk0, hone, hb0⟩ := hh
    split at h <;> try cases h
    rename_i cs hi
    have hR : AM.R w (foot ρ1) ι (.mg k' i off len cap) (a.eval S) := ((RL_other (by intro k r h; cases h)).1 hRv).1
    obtain ⟨b, base, cap', ad, hp, hlc, hcc, had, hnn, ⟨c0, t0, fr0, hrow0, hcsz⟩, eS⟩ := hR.mg_inv
    obtain ⟨hbi, c, ty, fr, hrow, hsz, hfz, hcl⟩ := s1.mem.at hi hp
    rw [hrow] at hrow0
    simp only [Option.some.injEq, Obj.cells.injEq] at hrow0
    obtain ⟨rfl, rfl, rfl⟩ := hrow0
    obtain ⟨hl, hw, hcells⟩ := src_ok (P := P) s1 hX hn
    obtain ⟨ys, hf, hys⟩ := hcells new.length (Nat.le_refl _)
    rw [List.take_length] at hys
    have hnl := flatten_len hw
    have hys1 := hys.1
    have honec : ∀ z ∈ ys.toList, z.oneCell' = true := fun z hz => by
      obtain ⟨j, hj⟩ := List.getElem?_of_mem hz
      have hlt : j < new.flatten.length := by have := get_some hj; rw [← hys1]; simpa using this
      exact one_cell (hys.2 j new.flatten[j] z (List.getElem?_eq_getElem hlt) (by simpa using hj)) (List.all_eq_true.1 hone _ (List.getElem_mem _))
    by_cases hin : len + new.length ≤ cap'
    · have run0 : ∀ r, (Builtin.append_ ts o.type #[a.eval S, a.eval X]).run P w = r → (execOp a.eval o).run P w = r.andThen fun v w' => .ok (.value v) w' := by
        intro r hr
        simp only [execOp, ho, resolve, Sem.run_bind, Sem.run_pure, Result.andThen, invoke, builtin]
        have : (#[S, X] : Array Operand).map a.eval = #[a.eval S, a.eval X] := by simp
        rw [this, hr]
      rw [eS] at run0
      have run1 := run_app_in (w := w) hc o.type ad len cap' new.length (a.eval X) ys hl hf hin
      have hmul : len * k' + new.length * k' ≤ cap' * k' := by rw [← Nat.add_mul]; exact Nat.mul_le_mul_right k' hin
      by_cases hne : new = []
      · subst hne
        have hy0 : ys = #[] := by simpa using hys1
        subst hy0
        have run2 : (execOp a.eval o).run P w = .ok (.value (.slice ad (len + 0) cap')) w := by
          rw [run0 _ run1]
          cases ad <;> simp [storeCells]
        obtain ⟨ρ0, s0, g0⟩ := s1.drop (by simp)
        split at h
        · cases h
          simp only [List.flatten_nil, setMany, set_same hi, List.length_nil]
          refine .value _ run2 ⟨ρ0, ι, s0.value ?_, g0⟩
          exact .mg k' i off _ cap b base cap' ad hp (by omega) hcc had hnn ⟨c, ty, fr, hrow, hcsz⟩
        · split at h <;> try cases h
          rename_i h2
          simp at h2
      · have hn0 : 0 < new.length := List.length_pos_iff.2 hne
        obtain rfl := had (by omega)
        simp only at run1
        obtain ⟨w', runS, hw'⟩ := run_storeCells (P := P) ys.toList (base + off + len * k') 0 w c ty fr hrow (by simp [hys1, hnl]; omega) (fun o h1 h2 => hfz o (by omega) h2) honec
        rw [Nat.add_zero] at hw'
        have run2 : (execOp a.eval o).run P w = .ok (.value (.slice (some ⟨b, base + off, none⟩) (len + new.length) cap')) w' := by
          rw [run0 _ run1, add_eq, runS]; rfl
        split at h
        · rename_i hfit
          cases h
          have hmc : len * k' + new.length * k' ≤ cap * k' := by rw [← Nat.add_mul]; exact Nat.mul_le_mul_right k' hfit.1
          rw [show base + off + len * k' = base + (off + len * k') by omega] at hw'
          obtain ⟨ρ2, s2, g2⟩ := s1.store (vs := new.flatten) (by simp) hi hp hw' (by simpa using hys1) (by rw [hnl]; omega) (T := none) (fun p h => by cases h) (fun j v z hv hz => ⟨by
            have := (hys.2 j v z hv (by simpa using hz)).RL
            split <;> exact this, LblP.fit_none hE _ _⟩)
          refine .value _ run2 ⟨ρ2, ι, s2.value ?_, g2⟩
          exact .mg k' i off _ cap b base cap' _ hp hfit.1 hcc (fun _ => rfl) (fun h => by cases h) (g2.kp.cap _ _ ⟨c, ty, fr, hrow, hcsz⟩)
        · split at h <;> try cases h
          rename_i h2
          obtain ⟨c', hrow', hsz', hget⟩ := hw'.row c ty fr hrow
          obtain ⟨ρ2, s2, g2⟩ := s1.regrow (m := len * k') hE (i := i) (b := b) (base := base) (off := off) (cs := cs) (.inl ⟨hi, hp, h2.1⟩) (us := new.flatten) (ys := ys.toList) (by simpa using hys1) (fun j v y h1 h2 => hys.2 j v y h1 (by simpa using h2))
            (w' := w') (b' := b) (base' := base + off) (wrote_kp hw' rfl hbi (by omega)) (.inl ⟨rfl, by omega, hi⟩) hrow' (by rw [hnl]; omega) (fun o h1 h2 => by rw [hw'.marks b]; exact hfz o (by omega) (by omega))
            (fun j x hj hx => by
              rw [cell_of_obj hrow] at hx
              rw [hget _ (by have := hmul; omega), if_neg (by omega)]; exact hx)
            (fun j y hy => by
              have hjl := get_some hy
              simp only [Array.length_toList] at hjl
              rw [hget _ (by omega), if_pos (by simp only [Array.length_toList]; omega), show base + off + (len * k' + j) - (base + off + len * k') = j by omega]
              exact hy)
            (fun q hq _ => hw'.other q hq) (fun q _ => hw'.marks q)
          refine .value _ run2 ⟨ρ2, _, s2.value ?_, g2⟩
          refine .mg k' _ 0 _ _ b (base + off) cap' _ (by rw [← s1.mem.len]; simp) (Nat.le_refl _) hin (fun _ => rfl) (fun h => by cases h) ⟨c', ty, fr, hrow', by omega⟩
    · split at h
      · rename_i hfit; omega
      · split at h <;> try cases h
        rename_i h2
        exact apm_grow (b := b) (base := base) hE s1 hX hc ho hn eS (fun h => had (by omega)) (.inl ⟨hi, hp, h2.1⟩) (by omega) h2.2.2 hb0
  · rename_i k'
    split at h <;> try cases h
    rename_i hh
    obtain ⟨rfl, hk0, hone, hb0, hn0, hb⟩ := hh
    have hR : AM.R w (foot ρ1) ι (.nils k') (a.eval S) := ((RL_other (by intro k r h; cases h)).1 hRv).1
    have eS := hR.nils_inv
    have := apm_grow (b := w.heap.size) (base := 0) (off := 0) (len := 0) (cs := []) (i := H.length + 1) hE s1 hX hc ho hn eS (fun h => absurd rfl h) (.inr ⟨by omega, by simp, rfl, rfl⟩) (by omega) (by simpa using hb) hb0
    rw [List.set_eq_of_length_le (by omega)] at this
    simpa using this
  · rename_i i off len cap
    split at h <;> try cases h
    rename_i cs hi
    split at h <;> try cases h
    rename_i hh
    obtain ⟨hone, hfit, hfl⟩ := hh
    have hR : AM.R w (foot ρ1) ι (.ms i off len cap) (a.eval S) := ((RL_other (by intro k r h; cases h)).1 hRv).1
    obtain ⟨b, base, cap', ad, hp, hlc, hcc, had, hnn, eS⟩ := hR.ms_inv
    obtain ⟨hbi, c, ty, fr, hrow, hsz, hfz, hcl⟩ := s1.mem.at hi hp
    obtain ⟨hl, hw, hcells⟩ := src_ok (P := P) s1 hX hn
    obtain ⟨ys, hf, hys⟩ := hcells new.length (Nat.le_refl _)
    rw [List.take_length] at hys
    have hnl := flatten_len hw
    have hys1 := hys.1
    have honec : ∀ z ∈ ys.toList, z.oneCell' = true := fun z hz => by
      obtain ⟨j, hj⟩ := List.getElem?_of_mem hz
      have hlt : j < new.flatten.length := by have := get_some hj; rw [← hys1]; simpa using this
      exact one_cell (hys.2 j new.flatten[j] z (List.getElem?_eq_getElem hlt) (by simpa using hj)) (List.all_eq_true.1 hone _ (List.getElem_mem _))
    have run0 : ∀ r, (Builtin.append_ ts o.type #[a.eval S, a.eval X]).run P w = r → (execOp a.eval o).run P w = r.andThen fun v w' => .ok (.value v) w' := by
      intro r hr
      simp only [execOp, ho, resolve, Sem.run_bind, Sem.run_pure, Result.andThen, invoke, builtin]
      have : (#[S, X] : Array Operand).map a.eval = #[a.eval S, a.eval X] := by simp
      rw [this, hr]
    rw [eS] at run0
    have run1 := run_app_in (w := w) hc o.type ad len cap' new.length (a.eval X) ys hl hf (by omega)
    have hmul : (len + new.length) * k = len * k + new.length * k := Nat.add_mul _ _ _
    by_cases hne : new = []
    · subst hne
      have hy0 : ys = #[] := by simpa using hys1
      subst hy0
      have run2 : (execOp a.eval o).run P w = .ok (.value (.slice ad (len + 0) cap')) w := by
        rw [run0 _ run1]
        cases ad <;> simp [storeCells]
      obtain ⟨ρ0, s0, g0⟩ := s1.drop (by simp)
      simp only [List.flatten_nil, setMany, set_same hi, List.length_nil]
      refine .value _ run2 ⟨ρ0, ι, s0.value ?_, g0⟩
      exact .ms i off _ cap b base cap' ad hp hlc hcc had hnn
    have hn0 : 0 < new.length := List.length_pos_iff.2 hne
    obtain rfl := had (by omega)
    simp only at run1
    obtain ⟨w', runS, hw'⟩ := run_storeCells (P := P) ys.toList (base + off + len * k) 0 w c ty fr hrow (by simp [hys1, hnl]; omega) (fun o h1 h2 => hfz o (by omega) h2) honec
    rw [Nat.add_zero] at hw'
    have run2 : (execOp a.eval o).run P w = .ok (.value (.slice (some ⟨b, base + off, none⟩) (len + new.length) cap')) w' := by
      rw [run0 _ run1, add_eq, runS]; rfl
    rw [show base + off + len * k = base + (off + len * k) by omega] at hw'
    obtain ⟨ρ2, s2, g2⟩ := s1.store (vs := new.flatten) (by simp) hi hp hw' (by simpa using hys1) (by rw [hnl]; omega) (T := none) (fun p h => by cases h) (fun j v z hv hz => ⟨by
      have := (hys.2 j v z hv (by simpa using hz)).RL
      split <;> exact this, LblP.fit_none hE _ _⟩)
    refine .value _ run2 ⟨ρ2, ι, s2.value ?_, g2⟩
    exact .ms i off _ cap b base cap' _ hp hfit hcc (fun _ => rfl) (fun h => by cases h)
  · cases h

/-- The wide form of a function is called. -/
theorem callk_ok (hcall : CallOK E P call) (hE : E.lim = none) (s : StA E nt φ H ρ ι a w [] []) {f : Nat} {Xs : Array Operand} {xs : List AX} (hx : chkXs Xs.toList xs = true) {ts : Array TypeId} (ho : o.op = .call { callee := .value (.func f), args := Xs, argTypes := ts }) {r : V} {H' : Heap}
    (h : call (wNo f) (takeAll φ xs).1 H = some (r, H')) : Runs P o a w (After E nt (takeAll φ xs).2 H' r ρ ι a w) := by
  obtain ⟨ρ1, s1, g1⟩ := takeAll_ok s hx
  simp only [List.nil_append] at s1
  have hc := hcall.wide h hE
  have hC := (s1.call (P := P) (first := []) (cap := []) (fs := #[]) (cs := #[]) (by simpa using hc) rfl rfl (by simp) (by simp)).callsW
  refine .inr (.inr (.inl ⟨f, Xs.map a.eval, w, ?_, ?_⟩))
  · have := callable_ok (w := w) (hc.1 _ (fnNo_w f)) (Xs.map a.eval)
    simp only [execOp, ho, resolve, Act.eval, Deferred.ofValue, Sem.run_bind, Sem.run_pure, Result.andThen, invoke, Array.empty_append, Array.append_empty]
    exact this
  · have he : (#[] ++ (Xs.toList.map a.eval).toArray ++ #[] : Array Value) = Xs.map a.eval := by apply Array.ext' ; simp
    rw [he] at hC
    refine hC.mono ?_
    rintro e w' ⟨x, rfl, ρ', ι', s', g'⟩
    exact ⟨x, rfl, ρ', ι', s', g1.trans g'⟩

theorem callvk_ok (hcall : CallOK E P call) (hE : E.lim = none) (s : StA E nt φ H ρ ι a w [] []) {F : Operand} {fx : AX} (hF : chkX F fx = true) {Xs : Array Operand} {xs : List AX} (hx : chkXs Xs.toList xs = true) {ts : Array TypeId} (ho : o.op = .call { callee := .value F, args := Xs, argTypes := ts }) {f : Nat} {first cap : List V} {r : V} {H' : Heap}
    (hf : fnParts0 (rd φ fx) = some (f, first, cap)) (h : call (wNo f) (first ++ (takeAll φ xs).1 ++ cap) H = some (r, H')) : Runs P o a w (After E nt (takeAll φ xs).2 H' r ρ ι a w) := by
  have hR := rd_ok s hF
  obtain ⟨ρ1, s1, g1⟩ := takeAll_ok s hx
  simp only [List.nil_append] at s1
  have hc := hcall.wide h hE
  obtain ⟨e, hfy⟩ := fnParts0_inv hf
  rw [e] at hR
  obtain ⟨fs, cs, eF, q1, q2, q3, q4⟩ := hR.fn_inv
  have hC := (s1.call (P := P) hc q1 q2 (fun j v y h h' => (q3 j v y h h').ext g1) (fun j v y h h' => (q4 j v y h h').ext g1)).callsW
  refine .inr (.inr (.inl ⟨f, fs ++ Xs.map a.eval ++ cs, w, ?_, ?_⟩))
  · have := callable_ok (w := w) (hc.1 _ (fnNo_w f)) (fs ++ Xs.map a.eval ++ cs)
    simp only [execOp, ho, resolve, eF, Deferred.ofValue, Sem.run_bind, Sem.run_pure, Result.andThen, invoke]
    exact this
  · have he : (fs ++ (Xs.toList.map a.eval).toArray ++ cs : Array Value) = fs ++ Xs.map a.eval ++ cs := by apply Array.ext' ; simp
    rw [he] at hC
    refine hC.mono ?_
    rintro e w' ⟨x, rfl, ρ', ι', s', g'⟩
    exact ⟨x, rfl, ρ', ι', s', g1.trans g'⟩

theorem ldm_ok (s : StA E nt φ H ρ ι a w [] []) {X : Operand} {x : AX} (hx : chkX X x = true) {t : TypeId} (ht : aggIs P t none = true) (ho : o.op = .load t X) {i off : Nat} {cs : List V} {v : V} (hr : rd φ x = .ptr i off)
    (hi : H[i]? = some (some cs)) (hc : cs[off]? = some v) (hv : ∀ k r, v ≠ .own k r) : Runs P o a w (After E nt φ H v ρ ι a w) := by
  obtain ⟨b, base, hp, eX⟩ := (hr ▸ rd_ok s hx).ptr_inv
  obtain ⟨hbi, c, ty, fr, hrow, hsz, hfz, hcells⟩ := s.mem.at hi hp
  obtain ⟨y, hy, hRL, hun⟩ := hcells off _ hc
  have hcell : w.cell? ⟨b, base + off, none⟩ = some y := by rw [cell_of_obj hrow]; exact hy
  have hg := aggIs_ok ht w
  exact .value y (by simp [execOp, ho, eX, Instr.loadAt, Instr.sureAddr, loadVar, hg, hcell]) (.same s ((RL_other hv).1 hRL).1)

end
end Go.AM
