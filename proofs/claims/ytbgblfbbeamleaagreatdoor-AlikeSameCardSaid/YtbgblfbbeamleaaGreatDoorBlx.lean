/-
  Builders of texts: what their methods' contracts leave of the memory, as the evaluator takes it.
-/
import Derived.Test.YtbgblfbbeamleaaGreatDoorExt
import Derived.Test.YtbgblfbbeamleaaGreatDoorFnc
namespace Go.AM
open Go.RowKit
set_option linter.unusedVariables false

/-- What a method that writes leaves. -/
structure Wrt (l T e : Nat) (bs' : List UInt8) (tl : Option (Nat × Nat)) (w w' : World) : Prop where
  os : w'.os = w.os
  tape : w'.tape = w.tape
  output : w'.output = w.output
  size : w.heap.size ≤ w'.heap.size
  other : ∀ k, k < w.heap.size → k ≠ l → (∀ n, tl ≠ some (k, n)) → w'.heap[k]? = w.heap[k]?
  row : ∀ g n, tl = some (g, n) → ∃ cur cur', w.heap[g]? = some (.cells cur e (0, 0)) ∧ w'.heap[g]? = some (.cells cur' e (0, 0)) ∧ cur'.size = cur.size
  at_ : ∃ v' tl', w'.heap[l]? = some (.cells #[.pointer (some ⟨l, 0, none⟩), v'] T (0, 0)) ∧ BufIs e w' v' bs' tl' ∧ ∀ g n, tl' = some (g, n) → tl = some (g, n) ∨ w.heap.size ≤ g ∧ g < w'.heap.size

/-- A method that writes. -/
def WrtOK (P : Program) (f T e : Nat) (xs : List Value) (r : V) (bs bs' : List UInt8) : Prop :=
  ∀ (l : Nat) (w : World) (p v : Value) (tl : Option (Nat × Nat)), w.heap[l]? = some (.cells #[p, v] T (0, 0)) → (p = .pointer none ∨ p = .pointer (some ⟨l, 0, none⟩)) → BufIs e w v bs tl → (∀ n, tl ≠ some (l, n)) →
    Calls P f (Value.pointer (some ⟨l, 0, none⟩) :: xs).toArray w fun en w' => ∃ x, en = .returned x ∧ (∀ w F ι, R w F ι r x) ∧ Wrt l T e bs' tl w w'

section
variable {E : LblP} {P : Program} {f : Nat}

theorem wrt_real (hf : f < yBase) (hc : callable P f = true) {i T e : Nat} {bs bs' : List UInt8} {args : List V} {vs : List Value} {H : Heap} {r : V} (hi : H[i]? = some (some [.bld T e bs])) (hro : ∀ k rows, r ≠ .own k rows)
    (hv : ∀ (w : World) (F : Nat → Nat → Prop) (ι : Places) (xs : List Value), xs.length = args.length → (∀ (j : Nat) (v : V) (y : Value), args[j]? = some v → xs[j]? = some y → ∃ tl, RL w F ι v y tl) → xs = vs)
    (h : WrtOK P f T e vs r bs bs') : RealCall E P f (.bptr i :: args) H r (H.set i (some [.bld T e bs'])) := by
  refine ⟨fun g hg => by rw [fnNo_lt hf] at hg; cases hg; exact hc, fun w ρ ι xs m s hl hx hs ha => ?_⟩
  unfold CallOf
  rw [fnNo_lt hf]
  obtain ⟨xl⟩ := xs
  match xl, hl with
  | x0 :: xr, hl =>
  have h0 := ((RL_other (by simp)).1 (hx 0 (.bptr i) x0 rfl rfl)).1
  obtain ⟨l, hli, rfl⟩ := h0.bptr_inv
  have hB := (m.rcd i _ l hi hli).bld
  obtain ⟨p, v, hrow, hp, hbuf⟩ := hB.at_
  have hxr : xr = vs := hv w (foot ρ) ι xr (by simpa using hl) (fun j v y h1 h2 => ⟨_, hx (j + 1) v y (by simpa using h1) (by simpa using h2)⟩)
  subst hxr
  have hne : ∀ n, ρ (.cell i 0) ≠ some (l, n) := fun n hn => by
    have := s.one _ _ _ _ _ hn hB.own
    cases this
  refine (h l w p v _ hrow hp hbuf hne).mono ?_
  rintro en w' ⟨x, rfl, hR, hW⟩
  obtain ⟨v', tl', hrow', hbuf', hnew⟩ := hW.at_
  -- the owners behind the call
  let ρ' : Own := fun k => match k with
    | .slot _ => none
    | .arg _ => none
    | .cell q j => if q = i ∧ j = 0 then tl' else ρ (.cell q j)
    | k => ρ k
  have hilt := get_some hi
  have hllt := lt_of_obj hrow
  have hup : ∀ k b n, ρ' k = some (b, n) → (k = .cell i 0 ∧ tl' = some (b, n)) ∨ (k ≠ .cell i 0 ∧ ρ k = some (b, n)) := by
    intro k b n hk
    cases k with
    | slot _ => cases hk
    | arg _ => cases hk
    | blk q => exact .inr ⟨by simp, hk⟩
    | fr q => exact .inr ⟨by simp, hk⟩
    | cell q j =>
      simp only [ρ'] at hk
      split at hk
      · rename_i hq
        obtain ⟨rfl, rfl⟩ := hq
        exact .inl ⟨rfl, hk⟩
      · rename_i hq
        exact .inr ⟨fun e => hq (by cases e; exact ⟨rfl, rfl⟩), hk⟩
  -- what another owner has is as it was
  have hoth : ∀ k b n, k ≠ .blk i → k ≠ .cell i 0 → ρ k = some (b, n) → w'.heap[b]? = w.heap[b]? := by
    intro k b n h1 h2 hk
    refine hW.other b (s.here _ _ _ hk) ?_ ?_
    · rintro rfl
      exact h1 (s.one _ _ _ _ _ hk hB.own)
    · intro n' hn'
      exact h2 (s.one _ _ _ _ _ hk hn')
  have hmk : ∀ b, b < w.heap.size → Marks0 b w w' := by
    intro b hb
    by_cases hbl : b = l
    · subst hbl; exact .of_cells hrow hrow'
    · by_cases hbg : ∃ n, ρ (.cell i 0) = some (b, n)
      · obtain ⟨n, hn⟩ := hbg
        obtain ⟨cur, cur', h1, h2, _⟩ := hW.row b n hn
        exact .of_cells h1 h2
      · exact .of_eq (hW.other b hb hbl (fun n hn => hbg ⟨n, hn⟩))
  have g : Goes ρ ι w ρ' ι w' := by
    refine .of ⟨hW.os, hW.tape, hW.output, hW.size, fun b hb => ?_⟩ (fun _ _ h => h) (fun k b n hm hk => ?_) (fun _ => rfl) hmk
    · by_cases hbl : b = l
      · subst hbl
        rw [hrow, hrow']
        exact ⟨_, _, rfl, rfl, fun o ho => absurd ⟨.blk i, 0, rfl, hB.own, Nat.zero_le _⟩ ho, fun _ => rfl⟩
      · by_cases hbg : ∃ n, ρ (.cell i 0) = some (b, n)
        · obtain ⟨n, hn⟩ := hbg
          obtain ⟨cur, cur', h1, h2, h3⟩ := hW.row b n hn
          rw [h1, h2]
          have hn0 : n = 0 := by
            rcases hbuf with ⟨_, _, q⟩ | ⟨_, g, cap, c, _, q, _⟩
            · rw [q] at hn; cases hn
            · rw [q] at hn; cases hn; rfl
          subst hn0
          exact ⟨_, _, rfl, h3, fun o ho => absurd ⟨.cell i 0, 0, rfl, hn, Nat.zero_le _⟩ ho, fun _ => rfl⟩
        · rw [hW.other b hb hbl (fun n hn => hbg ⟨n, hn⟩)]
          exact .refl _ _
    · rcases hup k b n hk with ⟨rfl, h1⟩ | ⟨h0, h1⟩
      · rcases hnew b n h1 with h2 | ⟨h2, _⟩
        · exact .inr ⟨.cell i 0, n, rfl, h2, Nat.le_refl _⟩
        · exact .inl h2
      · exact .inr ⟨k, n, hm, h1, Nat.le_refl _⟩
  have hcell : ∀ q j, ¬ (q = i ∧ j = 0) → ρ' (.cell q j) = ρ (.cell q j) := fun q j h => by simp only [ρ']; rw [if_neg h]
  have m' : Mem E (H.set i (some [.bld T e bs'])) ι ρ' w' := by
    refine ⟨by simp [m.len], fun q vs hq hq2 => ?_, fun q vs l' hq hl' => ?_, fun q hq => ?_, fun q vs j hq hj => ?_, m.glo.ext g, fun N hN => by rw [List.length_set]; exact m.lim N hN⟩
    · have hqi : q ≠ i := by rintro rfl; exact hq2 l hli
      rw [List.getElem?_set_ne (by omega)] at hq
      obtain ⟨b, base, c, t, fr, h1, h2, h3, h4, h5, h6⟩ := m.blk q vs hq hq2
      have hb := hoth _ b base (by simpa using hqi) (by simp) h2
      refine ⟨b, base, c, t, fr, h1, h2, by rw [hb]; exact h3, h4, fun o o1 o2 => by rw [hmk b (lt_of_obj h3)]; exact h5 o o1 o2, fun j u hj => ?_⟩
      obtain ⟨y, r1, r2, r3⟩ := h6 j u hj
      have hk := hcell q j (fun h => hqi h.1)
      exact ⟨y, r1, by rw [hk]; exact r2.ext g hk, r3⟩
    · by_cases hqi : q = i
      · subst hqi
        rw [List.getElem?_set_self hilt] at hq
        simp only [Option.some.injEq] at hq
        subst hq
        rw [hli] at hl'
        simp only [Option.some.injEq, Place.lp.injEq] at hl'
        subst hl'
        refine .inr (.inl ⟨T, e, bs', rfl, hB.own, fun j hj => ?_, _, v', hrow', .inr rfl, ?_⟩)
        · rw [hcell q j (fun h => hj h.2)]; exact hB.cel j hj
        · simp only [ρ', and_self, if_true]; exact hbuf'
      · rw [List.getElem?_set_ne (by omega)] at hq
        refine (m.rcd q vs l' hq hl').ext g rfl (fun j => hcell q j (fun h => hqi h.1)) (fun k b n hk hb => hoth k b n ?_ ?_ hb)
        · rcases hk with rfl | ⟨j, rfl⟩ <;> simp [hqi]
        · rcases hk with rfl | ⟨j, rfl⟩ <;> simp [hqi]
    · have hqi : q ≠ i := by
        rintro rfl
        exact hq _ (List.getElem?_set_self hilt)
      have := m.dead q (fun us hu => hq us (by rw [List.getElem?_set_ne (by omega)]; exact hu))
      exact ⟨this.1, fun j => by rw [hcell q j (fun h => hqi h.1)]; exact this.2 j⟩
    · by_cases hqi : q = i
      · subst hqi
        rw [List.getElem?_set_self hilt] at hq
        simp only [Option.some.injEq] at hq
        subst hq
        have hj0 : j ≠ 0 := by simp at hj; omega
        rw [hcell q j (fun h => hj0 h.2)]; exact hB.cel j hj0
      · rw [List.getElem?_set_ne (by omega)] at hq
        rw [hcell q j (fun h => hqi h.1)]; exact m.past q vs j hq hj
  have hsep : Sep ρ' w' := by
    refine ⟨fun k k' b n n' h1 h2 => ?_, fun k b n h1 => ?_⟩
    · rcases hup k b n h1 with ⟨rfl, q1⟩ | ⟨q0, q1⟩ <;> rcases hup k' b n' h2 with ⟨rfl, q2⟩ | ⟨q0', q2⟩
      · rfl
      · rcases hnew b n q1 with q3 | ⟨q3, _⟩
        · exact absurd (s.one _ _ _ _ _ q3 q2).symm q0'
        · have := s.here _ _ _ q2; omega
      · rcases hnew b n' q2 with q3 | ⟨q3, _⟩
        · exact absurd (s.one _ _ _ _ _ q1 q3) q0
        · have := s.here _ _ _ q1; omega
      · exact s.one _ _ _ _ _ q1 q2
    · rcases hup k b n h1 with ⟨rfl, q1⟩ | ⟨q0, q1⟩
      · rcases hnew b n q1 with q3 | ⟨_, q3⟩
        · exact Nat.lt_of_lt_of_le (s.here _ _ _ q3) hW.size
        · exact q3
      · exact Nat.lt_of_lt_of_le (s.here _ _ _ q1) hW.size
  exact ⟨x, ρ', ι, rfl, m', hsep, (hR _ _ _).RL, fun _ _ => rfl, fun _ => rfl, g⟩

/-- What 'String' leaves: the bytes' row is marked; the builder is given up. -/
structure Shw (l : Nat) (tl : Option (Nat × Nat)) (w w' : World) : Prop where
  os : w'.os = w.os
  tape : w'.tape = w.tape
  output : w'.output = w.output
  size : w.heap.size ≤ w'.heap.size
  other : ∀ k, k < w.heap.size → (∀ n, tl ≠ some (k, n)) → w'.heap[k]? = w.heap[k]?
  row : ∀ g n, tl = some (g, n) → ∃ cur e fr', w.heap[g]? = some (.cells cur e (0, 0)) ∧ w'.heap[g]? = some (.cells cur e fr')

def ShwOK (P : Program) (f T e : Nat) (bs : List UInt8) : Prop :=
  ∀ (l : Nat) (w : World) (p v : Value) (tl : Option (Nat × Nat)), w.heap[l]? = some (.cells #[p, v] T (0, 0)) → BufIs e w v bs tl → (∀ n, tl ≠ some (l, n)) →
    Calls P f #[Value.pointer (some ⟨l, 0, none⟩)] w fun en w' => en = .returned (.string ⟨bs.toArray⟩) ∧ Shw l tl w w'

theorem shw_real (hf : f < yBase) (hc : callable P f = true) {i T e : Nat} {bs : List UInt8} {H : Heap} (hi : H[i]? = some (some [.bld T e bs])) (h : ShwOK P f T e bs) : RealCall E P f [.bptr i] H (.str bs) (H.set i none) := by
  refine ⟨fun g hg => by rw [fnNo_lt hf] at hg; cases hg; exact hc, fun w ρ ι xs m s hl hx hs ha => ?_⟩
  unfold CallOf
  rw [fnNo_lt hf]
  obtain ⟨xl⟩ := xs
  match xl, hl with
  | [x0], hl =>
  have h0 := ((RL_other (by simp)).1 (hx 0 (.bptr i) x0 rfl rfl)).1
  obtain ⟨l, hli, rfl⟩ := h0.bptr_inv
  have hB := (m.rcd i _ l hi hli).bld
  obtain ⟨p, v, hrow, hp, hbuf⟩ := hB.at_
  have hne : ∀ n, ρ (.cell i 0) ≠ some (l, n) := fun n hn => by
    have := s.one _ _ _ _ _ hn hB.own
    cases this
  refine (h l w p v _ hrow hbuf hne).mono ?_
  rintro en w' ⟨rfl, hW⟩
  let ρ' : Own := fun k => match k with
    | .slot _ => none
    | .arg _ => none
    | .blk q => if q = i then none else ρ (.blk q)
    | .cell q j => if q = i then none else ρ (.cell q j)
    | k => ρ k
  have hilt := get_some hi
  have hsub : ∀ k pn, ρ' k = some pn → ρ k = some pn := by
    intro k pn hk
    cases k with
    | slot _ => cases hk
    | arg _ => cases hk
    | blk q => simp only [ρ'] at hk; split at hk; cases hk; exact hk
    | fr q => exact hk
    | cell q j => simp only [ρ'] at hk; split at hk; cases hk; exact hk
  have hnot : ∀ k b n, ρ' k = some (b, n) → k ≠ .cell i 0 := by
    rintro k b n hk rfl
    simp [ρ'] at hk
  have hoth : ∀ k b n, k ≠ .cell i 0 → ρ k = some (b, n) → w'.heap[b]? = w.heap[b]? := by
    intro k b n h2 hk
    refine hW.other b (s.here _ _ _ hk) ?_
    intro n' hn'
    exact h2 (s.one _ _ _ _ _ hk hn')
  have g : Goes ρ ι w ρ' ι w' := by
    refine ⟨⟨hW.os, hW.tape, hW.output, hW.size, fun b hb => ?_⟩, fun _ _ h => h, fun k b n hm hk => .inr ⟨k, n, hm, hsub _ _ hk, Nat.le_refl _⟩, fun _ => rfl, fun k b n hk hb => .of_eq (hoth k b n (hnot k b n hk) (hsub _ _ hk))⟩
    by_cases hbg : ∃ n, ρ (.cell i 0) = some (b, n)
    · obtain ⟨n, hn⟩ := hbg
      obtain ⟨cur, e', fr', h1, h2⟩ := hW.row b n hn
      rw [h1, h2]
      have hn0 : n = 0 := by
        rcases hbuf with ⟨_, _, q⟩ | ⟨_, g, cap, c, _, q, _⟩
        · rw [q] at hn; cases hn
        · rw [q] at hn; cases hn; rfl
      subst hn0
      exact ⟨_, _, rfl, rfl, fun o _ => rfl, fun ho => absurd ⟨.cell i 0, 0, rfl, hn, Nat.le_refl _⟩ (ho 0)⟩
    · rw [hW.other b hb (fun n hn => hbg ⟨n, hn⟩)]
      exact .refl _ _
  have hblk : ∀ q, q ≠ i → ρ' (.blk q) = ρ (.blk q) := fun q h => by simp only [ρ']; rw [if_neg h]
  have hcell : ∀ q j, q ≠ i → ρ' (.cell q j) = ρ (.cell q j) := fun q j h => by simp only [ρ']; rw [if_neg h]
  have m' : Mem E (H.set i none) ι ρ' w' := by
    refine ⟨by simp [m.len], fun q vs hq hq2 => ?_, fun q vs l' hq hl' => ?_, fun q hq => ?_, fun q vs j hq hj => ?_, m.glo.ext g, fun N hN => by rw [List.length_set]; exact m.lim N hN⟩
    · have hqi : q ≠ i := by rintro rfl; exact hq2 l hli
      rw [List.getElem?_set_ne (by omega)] at hq
      obtain ⟨b, base, c, t, fr, h1, h2, h3, h4, h5, h6⟩ := m.blk q vs hq hq2
      have hb := hoth _ b base (by simp) h2
      refine ⟨b, base, c, t, fr, h1, by rw [hblk q hqi]; exact h2, by rw [hb]; exact h3, h4, fun o o1 o2 => by rw [Marks0.of_eq hb]; exact h5 o o1 o2, fun j u hj => ?_⟩
      obtain ⟨y, r1, r2, r3⟩ := h6 j u hj
      have hk := hcell q j hqi
      exact ⟨y, r1, by rw [hk]; exact r2.ext g hk, r3⟩
    · have hqi : q ≠ i := by
        rintro rfl
        rw [List.getElem?_set_self hilt] at hq; cases hq
      rw [List.getElem?_set_ne (by omega)] at hq
      refine (m.rcd q vs l' hq hl').ext g (hblk q hqi) (fun j => hcell q j hqi) (fun k b n hk hb => hoth k b n ?_ hb)
      rcases hk with rfl | ⟨j, rfl⟩ <;> simp [hqi]
    · by_cases hqi : q = i
      · subst hqi; simp [ρ']
      · have := m.dead q (fun us hu => hq us (by rw [List.getElem?_set_ne (by omega)]; exact hu))
        exact ⟨by rw [hblk q hqi]; exact this.1, fun j => by rw [hcell q j hqi]; exact this.2 j⟩
    · have hqi : q ≠ i := by
        rintro rfl
        rw [List.getElem?_set_self hilt] at hq; cases hq
      rw [List.getElem?_set_ne (by omega)] at hq
      rw [hcell q j hqi]; exact m.past q vs j hq hj
  exact ⟨_, ρ', ι, rfl, m', ⟨(s.sub hsub).one, fun k b n hk => Nat.lt_of_lt_of_le (s.here _ _ _ (hsub _ _ hk)) hW.size⟩, (R.pr (.str bs)).RL, fun _ _ => rfl, fun _ => rfl, g⟩

end
/-! ### append to a builder's bytes -/

def cellsOfBytes (l : List UInt8) : List Value := l.map fun c => Value.int .u8 c.toNat

theorem cells_bytes {w : World} {F : Nat → Nat → Prop} {ι : Places} {s : List UInt8} {ys : Array Value} (h : Cells w F ι (bytesRows s).flatten ys) : ys = (cellsOfBytes s).toArray := by
  have hf : (bytesRows s).flatten = s.map fun c => V.int .u8 c.toNat := bytesRows_flat s
  rw [hf] at h
  obtain ⟨h1, h2⟩ := h
  apply Array.ext
  · simpa [cellsOfBytes] using h1
  · intro i q1 q2
    have hi : i < s.length := by simpa [cellsOfBytes] using q2
    have := (h2 i (.int .u8 (s[i]).toNat) ys[i] (by simp [hi]) (by simp)).int_inv
    rw [this]
    simp [cellsOfBytes]

/-- What an append leaves of a builder's bytes. -/
structure Grew (e : Nat) (bs' : List UInt8) (tl tl' : Option (Nat × Nat)) (v' : Value) (w w' : World) : Prop where
  buf : BufIs e w' v' bs' tl'
  os : w'.os = w.os
  tape : w'.tape = w.tape
  output : w'.output = w.output
  size : w.heap.size ≤ w'.heap.size
  other : ∀ k, k < w.heap.size → (∀ n, tl ≠ some (k, n)) → w'.heap[k]? = w.heap[k]?
  row : ∀ g n, tl = some (g, n) → ∃ cur cur', w.heap[g]? = some (.cells cur e (0, 0)) ∧ w'.heap[g]? = some (.cells cur' e (0, 0)) ∧ cur'.size = cur.size
  new : ∀ g n, tl' = some (g, n) → tl = some (g, n) ∨ w.heap.size ≤ g ∧ g < w'.heap.size

section
variable {P : Program}

theorem run_app_growE {w : World} {ts : Array TypeId} {k bytes : Nat} (hc : chkApp P ts k bytes = true) {t e : TypeId} (ht0 : ts[0]? = some t) (ht : P.underlying t = some (.slice e)) (ty : TypeId) (ad : Option Addr) (len cap n : Nat) (x : Value) (old ys : Array Value) (hl : (Builtin.lenOf x).run P w = .ok n w) (ho : (Builtin.firstCells k len (.slice ad len cap)).run P w.drew = .ok old w.drew)
    (hf : (Builtin.firstCells k n x).run P w.drew = .ok ys w.drew) (hcap : cap < len + n) (hb : 2 * (len + n) * bytes ≤ 2 ^ 48) (hb0 : 0 < bytes) :
    ∃ c rest, len + n ≤ c ∧ c ≤ maxLen ∧ rest.size = (c - (len + n)) * k ∧ (Builtin.append_ ts ty #[.slice ad len cap, x]).run P w = .ok (.slice (some ⟨w.heap.size, 0, none⟩) (len + n) c) (w.drew.alloc (.cells (old ++ ys ++ rest) e)) := by
  obtain ⟨t', u, e', h1, h2, h3, h4, h5⟩ := chkApp_ok hc
  rw [ht0] at h1; cases h1
  rw [ht] at h3; cases h3
  obtain ⟨i, z, hi, hs, hbs, hz, hzs⟩ := elemIs_ok h4
  subst hs
  subst hbs
  obtain ⟨d, hd, hdn⟩ := notInt_ok h5
  have hn : ¬ (len + n ≤ cap) := by omega
  have hx : Builtin.nextslicecap (len + n) cap ≤ 2 * (len + n) := nextslicecap_le hcap
  have h48 : ¬ (281474976710656 < Builtin.nextslicecap (len + n) cap * i.bytes) := by
    have := Nat.mul_le_mul_right i.bytes hx
    omega
  have hbn : ¬ i.bytes = 0 := by omega
  have hcapn : len + n ≤ grownCap w (len + n) cap e := by
    unfold grownCap Question.cut
    simp
  have hmx : len + n ≤ maxLen := by
    have : 1 ≤ i.bytes := hb0
    have := Nat.mul_le_mul_left (2 * (len + n)) this
    unfold maxLen
    omega
  refine ⟨grownCap w (len + n) cap e, Builtin.zeroCells z.cells (grownCap w (len + n) cap e - (len + n)), hcapn, grownCap_le_maxLen w (len + n) cap e hmx, by simp [Builtin.zeroCells, hzs], ?_⟩
  simp [Builtin.append_, h2, ht0, run_underlying ht, run_underlying hd, sizeOf, typeInfo, zeroValue, hi, hz, hl, hn, h48, hbn, Question.forced, ho, hf, newRow, grownCap]

theorem buf_src {w : World} {e : Nat} {v : Value} {bs : List UInt8} {tl : Option (Nat × Nat)} (h : BufIs e w v bs tl) : ∃ ad cap, v = .slice ad bs.length cap ∧ (Builtin.firstCells 1 bs.length v).run P w = .ok (cellsOfBytes bs).toArray w := by
  rcases h with ⟨rfl, rfl, _⟩ | ⟨_, g, cap, cur, rfl, _, hg, hc1, hc2, hcs, hcell⟩
  · obtain ⟨_, _, h3⟩ := Src.sl (P := P) (w := w) (F := fun _ _ => False) (ι := []) (k := 1) (rows := []) (x := .slice none 0 0) (PR.sl 1 [] none 0 0 0 (fun _ _ => default) (Nat.le_refl _) (fun _ => rfl) (by simp) (by simp) (by simp) (by simp))
    obtain ⟨ys, h4, h5⟩ := h3 0 (by simp)
    refine ⟨none, 0, rfl, ?_⟩
    have : ys = #[] := by have := h5.1; simpa using this
    rw [this] at h4
    exact h4
  · have hp : PR w (fun _ _ => False) (.sl 1 (bytesRows bs)) (.slice (some ⟨g, 0, none⟩) (bytesRows bs).length cap) := by
      refine PR.sl 1 (bytesRows bs) _ cap g 0 (fun i _ => .int .u8 ((bs[i]?).getD 0).toNat) (by simpa [bytesRows] using hc1) (fun h => by cases h) (by simp [bytesRows]) (fun _ => rfl) (fun i j r v h1 h2 => ⟨?_, fun h => h⟩) (fun i j r v h1 h2 => ?_)
      · simp only [bytesRows, List.getElem?_map, Option.map_eq_some_iff] at h1
        obtain ⟨y, hy, rfl⟩ := h1
        rcases j with _ | j
        · rw [cell_of_obj hg, hy]
          simpa using hcell i y hy
        · simp at h2
      · simp only [bytesRows, List.getElem?_map, Option.map_eq_some_iff] at h1
        obtain ⟨y, hy, rfl⟩ := h1
        rcases j with _ | j
        · simp at h2; subst h2
          rw [hy]
          exact .int _ _
        · simp at h2
    obtain ⟨_, _, h3⟩ := Src.sl (P := P) (ι := []) hp
    obtain ⟨ys, h4, h5⟩ := h3 bs.length (by simp [bytesRows])
    rw [List.take_of_length_le (by simp [bytesRows])] at h5
    rw [cells_bytes h5] at h4
    refine ⟨some ⟨g, 0, none⟩, cap, rfl, ?_⟩
    have hl : (bytesRows bs).length = bs.length := by simp [bytesRows]
    rw [hl] at h4
    exact h4

theorem app_buf {w : World} {ts : Array TypeId} (hc : chkApp P ts 1 1 = true) {t e : TypeId} (ht0 : ts[0]? = some t) (ht : P.underlying t = some (.slice e)) (ty : TypeId) {v x : Value} {bs new : List UInt8} {tl : Option (Nat × Nat)} (hbuf : BufIs e w v bs tl)
    (hl : (Builtin.lenOf x).run P w = .ok new.length w) (hf : (Builtin.firstCells 1 new.length x).run P w = .ok (cellsOfBytes new).toArray w) (hfd : (Builtin.firstCells 1 new.length x).run P w.drew = .ok (cellsOfBytes new).toArray w.drew) (hlen : bs.length + new.length ≤ 2 ^ 46) :
    ∃ v' w' tl', (Builtin.append_ ts ty #[v, x]).run P w = .ok v' w' ∧ Grew e (bs ++ new) tl tl' v' w w' := by
  obtain ⟨ad, cap, hv, hsrc⟩ := buf_src (P := P) hbuf
  obtain ⟨_, _, _, hsrcd⟩ := buf_src (P := P) (w := w.drew) (e := e) (v := v) (bs := bs) (tl := tl) hbuf
  subst hv
  have hcl : ∀ l : List UInt8, (cellsOfBytes l).length = l.length := fun l => by simp [cellsOfBytes]
  by_cases hcap : bs.length + new.length ≤ cap
  · have run1 := run_app_in (w := w) hc ty ad bs.length cap new.length x _ hl hf hcap
    rcases hbuf with ⟨rfl, h2, rfl⟩ | ⟨hbn, g, cap', cur, h2, rfl, hg, hc1, hc2, hcs, hcell⟩
    · simp only [List.length_nil, Value.slice.injEq, true_and] at h2
      obtain ⟨rfl, rfl⟩ := h2
      have hn : new = [] := List.eq_nil_of_length_eq_zero (by simp at hcap; simpa using hcap)
      subst hn
      refine ⟨_, w, none, by simpa using run1, ?_, rfl, rfl, rfl, Nat.le_refl _, fun _ _ _ => rfl, fun _ _ h => (by cases h), fun _ _ h => (by cases h)⟩
      exact .inl ⟨rfl, rfl, rfl⟩
    · simp only [Value.slice.injEq, true_and] at h2
      obtain ⟨rfl, rfl⟩ := h2
      simp only [Nat.mul_one] at run1
      obtain ⟨w', runS, hw'⟩ := run_storeCells (P := P) (cellsOfBytes new) bs.length 0 w cur e (0, 0) hg (by rw [hcl]; omega) (fun o _ _ => by unfold World.frozen?; simp [hg]) (fun z hz => by
        simp only [cellsOfBytes, List.mem_map] at hz
        obtain ⟨c, _, rfl⟩ := hz
        rfl)
      rw [Nat.add_zero] at hw'
      obtain ⟨cur', hrow', hsz', hget⟩ := hw'.row cur e (0, 0) hg
      refine ⟨.slice (some ⟨g, 0, none⟩) (bs.length + new.length) cap, w', some (g, 0), ?_, ?_, hw'.os, hw'.tape, hw'.output, Nat.le_of_eq hw'.size.symm, fun k hk hn => hw'.other k (fun h => hn 0 (by rw [h])), fun g' n h => ?_, fun _ _ h => .inl h⟩
      · rw [run1, add_eq, Nat.zero_add, runS]; rfl
      · refine .inr ⟨by simp [hbn], g, cap, cur', by simp, rfl, hrow', by simpa using hcap, hc2, by omega, fun j x hj => ?_⟩
        have hjl := get_some hj
        rw [List.length_append] at hjl
        rw [hget j (by omega)]
        by_cases hjb : bs.length ≤ j
        · rw [if_pos (by rw [hcl]; omega)]
          rw [List.getElem?_append_right hjb] at hj
          simp [cellsOfBytes, hj]
        · rw [if_neg (by omega)]
          rw [List.getElem?_append_left (by omega)] at hj
          exact hcell j x hj
      · simp only [Option.some.injEq, Prod.mk.injEq] at h
        obtain ⟨rfl, rfl⟩ := h
        exact ⟨cur, cur', hg, hrow', hsz'⟩
  · obtain ⟨c, rest, q1, q2, q3, q4⟩ := run_app_growE (w := w) hc ht0 ht ty ad bs.length cap new.length x _ _ hl hsrcd hfd (by omega) (by omega) (by omega)
    have hold : ∀ k, k < w.heap.size → (w.drew.alloc (.cells ((cellsOfBytes bs).toArray ++ (cellsOfBytes new).toArray ++ rest) e)).heap[k]? = w.heap[k]? := fun k hk => Go.RowKit.Below.heap_alloc w.drew _ k hk
    refine ⟨_, _, some (w.heap.size, 0), q4, ?_, rfl, rfl, rfl, by simp, fun k hk _ => hold k hk, fun g' n h => ?_, fun g' n h => ?_⟩
    · refine .inr ⟨fun h => by have := congrArg List.length h; simp only [List.length_append, List.length_nil] at this; omega, w.heap.size, c, _, by simp, rfl, heap_alloc_new w.drew _, by simpa using q1, q2, ?_, fun j x hj => ?_⟩
      · simp only [Array.size_append, List.size_toArray, hcl, q3]
        omega
      · have hjl := get_some hj
        rw [List.length_append] at hjl
        rw [Array.getElem?_append_left (by simp only [Array.size_append, List.size_toArray, hcl]; omega)]
        have : (cellsOfBytes bs).toArray ++ (cellsOfBytes new).toArray = (cellsOfBytes (bs ++ new)).toArray := by simp [cellsOfBytes]
        rw [this, List.getElem?_toArray]
        simp only [cellsOfBytes, List.getElem?_map, hj, Option.map_some]
    · rcases hbuf with ⟨_, _, h3⟩ | ⟨_, g, cap', cur, h2, h3, hg, _⟩
      · rw [h3] at h; cases h
      · rw [h3] at h
        cases h
        exact ⟨cur, cur, hg, by rw [hold _ (lt_of_obj hg)]; exact hg, rfl⟩
    · simp only [Option.some.injEq, Prod.mk.injEq] at h
      obtain ⟨rfl, rfl⟩ := h
      exact .inr ⟨Nat.le_refl _, by simp⟩

variable {ops : Array Oper} {Q : Exit → Act → World → Prop} {o : Oper} {rest : List Oper} {a : Act} {w w' : World}

theorem wl_app {ts : Array TypeId} (hgd : o.guard = none) {S X : Operand} (ho : o.op = .call { callee := .builtin .append, args := #[S, X], argTypes := ts }) (hc : chkApp P ts 1 1 = true) {t e : TypeId} (ht0 : ts[0]? = some t) (ht : P.underlying t = some (.slice e)) {v x : Value} {bs new : List UInt8} {tl : Option (Nat × Nat)}
    (hS : a.eval S = v) (hX : a.eval X = x) (hbuf : BufIs e w v bs tl) (hl : (Builtin.lenOf x).run P w = .ok new.length w) (hf : (Builtin.firstCells 1 new.length x).run P w = .ok (cellsOfBytes new).toArray w) (hfd : (Builtin.firstCells 1 new.length x).run P w.drew = .ok (cellsOfBytes new).toArray w.drew) (hlen : bs.length + new.length ≤ 2 ^ 46)
    (h : ∀ v' w' tl', Grew e (bs ++ new) tl tl' v' w w' → wpList P ops Q rest (a.put o.dst v') w') : wpList P ops Q (o :: rest) a w := by
  obtain ⟨v', w', tl', hr, hg⟩ := app_buf (P := P) (w := w) hc ht0 ht o.type hbuf hl hf hfd hlen
  refine wl_val hgd ?_ (h v' w' tl' hg)
  simp only [execOp, ho, resolve, Sem.run_bind, Sem.run_pure, Result.andThen, invoke, builtin]
  have : (#[S, X] : Array Operand).map a.eval = #[v, x] := by simp [hS, hX]
  rw [this, hr]

theorem first_one {b : Nat} {c : UInt8} {t : TypeId} {fr : Nat × Nat} (h : w.heap[b]? = some (.cells #[.int .u8 c.toNat] t fr)) (n : Nat) (hn : n = 1) : (Builtin.firstCells 1 n (.slice (some ⟨b, 0, none⟩) 1 1)).run P w = .ok (cellsOfBytes [c]).toArray w := by
  subst hn
  have := run_loadCells (P := P) w ⟨b, 0, none⟩ 1 (fun _ => .int .u8 c.toNat) (fun j hj => by
    have : j = 0 := by omega
    subst this
    rw [add_eq, cell_of_obj h]; rfl)
  simpa [Builtin.firstCells, cellsOfBytes] using this

theorem BufIs.alloc {e : Nat} {v : Value} {bs : List UInt8} {tl : Option (Nat × Nat)} (h : BufIs e w v bs tl) (x : Obj) : BufIs e (w.alloc x) v bs tl := by
  rcases h with h | ⟨r0, g, cap, cur, r1, r2, r3, r4⟩
  · exact .inl h
  · exact .inr ⟨r0, g, cap, cur, r1, r2, by rw [Go.RowKit.Below.heap_alloc _ _ _ (lt_of_obj r3)]; exact r3, r4⟩

theorem BufIs.setCell {e : Nat} {v : Value} {bs : List UInt8} {tl : Option (Nat × Nat)} (h : BufIs e w v bs tl) (p : Addr) (y : Value) (hp : ∀ n, tl ≠ some (p.block, n)) : BufIs e (w.setCell p y) v bs tl := by
  rcases h with h | ⟨r0, g, cap, cur, r1, r2, r3, r4⟩
  · exact .inl h
  · exact .inr ⟨r0, g, cap, cur, r1, r2, by rw [Go.RowKit.Below.heap_setCell _ _ _ _ (fun e => hp 0 (by rw [← e]; exact r2))]; exact r3, r4⟩

end
end Go.AM
