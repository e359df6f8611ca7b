/-
  Copying into, and clearing, cells of our own.
-/
import Derived.Test.YtbgblfbbeamleaaGreatDoorOpX
set_option linter.unusedVariables false
set_option linter.unusedSimpArgs false
namespace Go.AM

def chkCpy (P : Program) (ts : Array TypeId) (k : Nat) : Bool :=
  match ts[0]? with
  | some t => sliceElem P t (fun e => sizeIs P e k)
  | none => false

def chkClr (P : Program) (ts : Array TypeId) (zero : List V) : Bool :=
  match ts[0]? with
  | some t => sliceElem P t (fun e => zeroIs P e zero && noOwns zero && !zero.isEmpty)
  | none => false

section
variable {P : Program} {E : LblP} {nt : Cx} {φ : Fr} {H : Heap} {ρ : Own} {ι : Places} {a : Act} {w : World} {o : Oper}

theorem set_same {H : Heap} {i : Nat} {c : Option (List V)} (h : H[i]? = some c) : H.set i c = H := by
  apply List.ext_getElem?
  intro j
  by_cases hj : i = j
  · subst hj
    rw [List.getElem?_set_self (get_some h), h]
  · rw [List.getElem?_set_ne hj]

/-- Plain cells are written over cells of ours. -/
theorem StA.over (s : StA E nt φ H ρ ι a w [] []) {i b base off : Nat} {cs vs : List V} {xs : Array Value} (hi : H[i]? = some (some cs)) (hp : ι[i]? = some (.blk b base)) (hs : off + vs.length ≤ cs.length)
    (hv : vs.all V.plain = true) (hc : Cells w (foot ρ) ι vs xs) :
    ∃ w' ρ', (storeCells ⟨b, base + off, none⟩ xs.toList).run P w = .ok () w' ∧ StA E nt φ (H.set i (some (setMany cs off vs))) ρ' ι a w' [] [] ∧ Goes ρ ι w ρ' ι w' := by
  obtain ⟨hbi, c, ty, fr, hrow, hsz, hfz, _⟩ := s.mem.at hi hp
  have hone : ∀ (j : Nat) (v : V) (z : Value), vs[j]? = some v → xs[j]? = some z → R w (foot ρ) ι v z ∧ z.oneCell' = true ∧ E.fit i v := fun j v z h1 h2 => by
    have h3 := hc.2 j v z h1 h2
    have h4 : v.plain = true := by simpa using List.all_eq_true.1 hv v (List.mem_of_getElem? h1)
    exact ⟨h3, one_cell h3 (plain_one h4), LblP.fit_of ((plain_PR h3 h4).under _)⟩
  have hl : xs.size = vs.length := hc.1
  obtain ⟨w', run, hw⟩ := run_storeCells (P := P) xs.toList (base + off) 0 w c ty fr hrow (by simp; omega) (fun o h1 h2 => hfz o (by omega) h2) (fun z hz => by
    obtain ⟨j, hj⟩ := List.getElem?_of_mem hz
    have hlt : j < vs.length := by have := get_some hj; simp at this; omega
    exact (hone j vs[j] z (by simp) (by simpa using hj)).2.1)
  rw [Nat.add_zero] at hw
  obtain ⟨ρ2, s2, g2⟩ := s.store (vs := vs) (by simp) hi hp hw (by simpa using hl) hs (T := none) (fun p h => by cases h) (fun j v z h1 h2 => by
    obtain ⟨h3, _, h5⟩ := hone j v z h1 (by simpa using h2)
    refine ⟨?_, h5⟩
    split
    · exact h3.RL
    · exact h3.RL)
  exact ⟨w', ρ2, run, s2, g2⟩

theorem clr_ok (s : StA E nt φ H ρ ι a w [] []) {D : Operand} {d : AX} (hd : chkX D d = true) {ts : Array TypeId} {zero : List V} (hc : chkClr P ts zero = true)
    (ho : o.op = .call { callee := .builtin .clear, args := #[D], argTypes := ts }) {i off len cap : Nat} {cs : List V} (hr : R w (foot ρ) ι (.ms i off len cap) (a.eval D)) (hi : H[i]? = some (some cs)) (hs : off + len * zero.length ≤ cs.length) (hz : zero.all V.plain = true) :
    Runs P o a w (After E nt φ (H.set i (some (setMany cs off (List.replicate len zero).flatten))) .undef ρ ι a w) := by
  obtain ⟨b, base, cap', ad, hp, hlc, hcc, had, hnn, eX⟩ := hr.ms_inv
  unfold chkClr at hc
  split at hc <;> try cases hc
  rename_i t ht
  obtain ⟨e, he, hc⟩ := sliceElem_ok hc
  simp only [Bool.and_eq_true] at hc
  obtain ⟨⟨q1, q2⟩, q3⟩ := hc
  obtain ⟨inf, z, hinf, hz1, hcz⟩ := zero_cells (w := w) (ι := ι) (F := foot ρ) q1 q2
  have h0 : 0 < zero.length := by
    cases zero with
    | nil => cases q3
    | cons => simp
  by_cases hl : len = 0
  · subst hl
    have e1 : setMany cs off (List.replicate 0 zero).flatten = cs := by simp [setMany]
    rw [e1, set_same hi]
    refine .value (.tuple #[]) ?_ (.same s (.undef _))
    cases ad with
    | none => simp [execOp, ho, eX, resolve, invoke, builtin, Builtin.clear_, ht, run_underlying he]
    | some ad => simp [execOp, ho, eX, resolve, invoke, builtin, Builtin.clear_, ht, run_underlying he]
  · have := had (by omega)
    subst this
    obtain ⟨w', ρ2, run, s2, g2⟩ := s.over (P := P) (vs := (List.replicate len zero).flatten) hi hp (by rw [replicate_len]; exact hs) (by
      rw [List.all_eq_true]
      intro v hv
      obtain ⟨r, hr, hv⟩ := List.mem_flatten.1 hv
      rw [List.eq_of_mem_replicate hr] at hv
      exact List.all_eq_true.1 hz v hv) (make_cells hcz len h0)
    refine .value (w1 := w') (.tuple #[]) ?_ ⟨ρ2, ι, s2.value (.undef _), g2⟩
    have e2 : (Builtin.zeroCells z.cells len) = (Array.range (len * zero.length)).map (z.cells[· % z.cells.size]!) := by
      unfold Builtin.zeroCells
      rw [hcz.1]
    obtain ⟨n, rfl⟩ : ∃ n, len = n + 1 := ⟨len - 1, by omega⟩
    simp [execOp, ho, eX, resolve, invoke, builtin, Builtin.clear_, ht, run_underlying he, zeroValue, typeInfo, hinf, hz1, e2]
    simp only [Array.toList_map, Array.toList_range] at run
    rw [run]
    rfl

theorem clr_nil_ok (s : StA E nt φ H ρ ι a w [] []) {D : Operand} {d : AX} (hd : chkX D d = true) {ts : Array TypeId} {zero : List V} (hc : chkClr P ts zero = true)
    (ho : o.op = .call { callee := .builtin .clear, args := #[D], argTypes := ts }) {k : Nat} (hr : rd φ d = .sl k []) : Runs P o a w (After E nt φ H .undef ρ ι a w) := by
  have hR := (hr ▸ rd_ok s hd).sl_inv
  unfold chkClr at hc
  split at hc <;> try cases hc
  rename_i t ht
  obtain ⟨e, he, hc⟩ := sliceElem_ok hc
  refine .value (.tuple #[]) ?_ (.same s (.undef _))
  generalize hx : a.eval D = x at hR
  cases hR with
  | sl _ _ ad cap b off vals hcap hn hk ha hcc hrr =>
    cases ad with
    | none => simp [execOp, ho, hx, resolve, invoke, builtin, Builtin.clear_, ht, run_underlying he]
    | some ad => simp [execOp, ho, hx, resolve, invoke, builtin, Builtin.clear_, ht, run_underlying he]

theorem cpy_ok (s : StA E nt φ H ρ ι a w [] []) {D S : Operand} {d sx : AX} (hd : chkX D d = true) (hsx : chkX S sx = true) {ts : Array TypeId} {k : Nat} (hc : chkCpy P ts k = true)
    (ho : o.op = .call { callee := .builtin .copy, args := #[D, S], argTypes := ts }) {i off len cap : Nat} {cs : List V} {new : List (List V)} (hr : rd φ d = .ms i off len cap) (hn : rowsOf H k (rd φ sx) = some new) (hi : H[i]? = some (some cs))
    (hs : off + len * k ≤ cs.length) (hz : ((new.take (min new.length len)).all fun r => r.all V.plain) = true) :
    Runs P o a w (After E nt φ (H.set i (some (setMany cs off (new.take (min new.length len)).flatten))) (.int .i64 (min new.length len : Nat)) ρ ι a w) := by
  obtain ⟨b, base, cap', ad, hp, hlc, hcc, had, hnn, eX⟩ := (hr ▸ rd_ok s hd).ms_inv
  obtain ⟨hlen, hwid, hfc⟩ := src_ok (P := P) s hsx hn
  unfold chkCpy at hc
  split at hc <;> try cases hc
  rename_i t ht
  obtain ⟨e, he, hc⟩ := sliceElem_ok hc
  obtain ⟨ys, hy1, hy2⟩ := hfc (min new.length len) (by omega)
  have hfl := flatten_len (take_width (m := min new.length len) hwid)
  have hl : (new.take (min new.length len)).length = min new.length len := by simp
  rw [hl] at hfl
  have hle : off + (new.take (min new.length len)).flatten.length ≤ cs.length := by
    rw [hfl]
    have : min new.length len * k ≤ len * k := Nat.mul_le_mul_right _ (by omega)
    omega
  by_cases hc0 : cap = 0
  · have hl0 : len = 0 := by omega
    subst hl0
    have e0 : min new.length 0 = 0 := by omega
    rw [e0] at hy1 hy2 ⊢
    have e1 : setMany cs off (new.take 0).flatten = cs := by simp [setMany]
    rw [e1, set_same hi]
    have hys : ys = #[] := by
      have := hy2.1
      simp at this
      exact this
    subst hys
    refine .value (.int .i64 (0 : Nat)) ?_ (.same s int_same)
    cases ad with
    | none => simp [execOp, ho, eX, resolve, invoke, builtin, Builtin.copy_, ht, run_underlying he, run_sizeOf hc, hlen, hy1, goInt]
    | some ad => simp [execOp, ho, eX, resolve, invoke, builtin, Builtin.copy_, ht, run_underlying he, run_sizeOf hc, hlen, hy1, goInt, storeCells]
  · have := had hc0
    subst this
    obtain ⟨w', ρ2, run, s2, g2⟩ := s.over (P := P) (vs := (new.take (min new.length len)).flatten) hi hp hle (by
      rw [List.all_eq_true]
      intro v hv
      obtain ⟨r, hr, hv⟩ := List.mem_flatten.1 hv
      exact List.all_eq_true.1 (List.all_eq_true.1 hz r hr) v hv) hy2
    refine .value (w1 := w') (.int .i64 (min new.length len : Nat)) ?_ ⟨ρ2, ι, s2.value int_same, g2⟩
    simp [execOp, ho, eX, resolve, invoke, builtin, Builtin.copy_, ht, run_underlying he, run_sizeOf hc, hlen, goInt]
    rw [show Nat.min new.length len = min new.length len from rfl, hy1]
    simp [run]

theorem cpy_nil_ok (s : StA E nt φ H ρ ι a w [] []) {D S : Operand} {d sx : AX} (hd : chkX D d = true) (hsx : chkX S sx = true) {ts : Array TypeId} {k : Nat} (hc : chkCpy P ts k = true)
    (ho : o.op = .call { callee := .builtin .copy, args := #[D, S], argTypes := ts }) {k' : Nat} {new : List (List V)} (hr : rd φ d = .sl k' []) (hn : rowsOf H k (rd φ sx) = some new) : Runs P o a w (After E nt φ H (.int .i64 0) ρ ι a w) := by
  have hR := (hr ▸ rd_ok s hd).sl_inv
  obtain ⟨hlen, hwid, hfc⟩ := src_ok (P := P) s hsx hn
  unfold chkCpy at hc
  split at hc <;> try cases hc
  rename_i t ht
  obtain ⟨e, he, hc⟩ := sliceElem_ok hc
  obtain ⟨ys, hy1, hy2⟩ := hfc 0 (by omega)
  have hys : ys = #[] := by
    have := hy2.1
    simp at this
    exact this
  subst hys
  refine .value (.int .i64 0) ?_ (.same s int_same)
  generalize hx : a.eval D = x at hR
  cases hR with
  | sl _ _ ad cap b off vals hcap hnn hk ha hcc hrr =>
    cases ad with
    | none => simp [execOp, ho, hx, resolve, invoke, builtin, Builtin.copy_, ht, run_underlying he, run_sizeOf hc, hlen, hy1, goInt]
    | some ad => simp [execOp, ho, hx, resolve, invoke, builtin, Builtin.copy_, ht, run_underlying he, run_sizeOf hc, hlen, hy1, goInt, storeCells]

end
end Go.AM
