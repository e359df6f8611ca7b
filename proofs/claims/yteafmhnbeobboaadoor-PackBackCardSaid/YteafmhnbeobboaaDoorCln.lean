/-
  Copies of bytes: slices.Clone, bytes.Clone, walked by hand.
-/
import Derived.Test.YteafmhnbeobboaaDoorExt
import Derived.Test.YteafmhnbeobboaaDoorCheck
import Derived.WalkKit
import Derived.OwnWalk
import Derived.Lib.Walk
import Derived.Lib.SliceRun
import Derived.Shelf.RegionOpenPlain
import Derived.Deep.LoopGhost
import Derived.Laws.AppendOwn
namespace Go.Proofs.YteafmhnbeobboaaDoor.cln
open Go.AM Go.RowKit Go.Shelf Go.Lib
set_option linter.unusedVariables false
set_option linter.unusedSimpArgs false
set_option maxHeartbeats 2000000
set_option maxRecDepth 100000

theorem i5 : (Tryd.prog.info? 5).map (fun i => (i.zero, i.size, i.bytes)) = some (some (Value.int IntKind.u8 0), 1, 1) := by kernel_rfl

theorem bytes_len : ∀ {rows : List (List V)} {s : List UInt8}, rowsBytes rows = some s → rows.length = s.length ∧ ∀ (i : Nat) (b : UInt8), s[i]? = some b → rows[i]? = some [.int .u8 b.toNat]
  | [], s, h => by simp [rowsBytes] at h; subst h; simp
  | r :: rows, s, h => by
    match r, h with
    | [.int .u8 n], h =>
      simp only [rowsBytes] at h
      split at h
      · rename_i hn
        simp only [Option.map_eq_some_iff] at h
        obtain ⟨s', h1, rfl⟩ := h
        obtain ⟨h2, h3⟩ := bytes_len h1
        refine ⟨by simp [h2], fun i b hb => ?_⟩
        cases i with
        | zero =>
          simp at hb
          subst hb
          simp only [List.getElem?_cons_zero, Option.some.injEq, List.cons.injEq, V.int.injEq, true_and, and_true]
          rw [UInt8.toNat_ofNat', Nat.mod_eq_of_lt (by omega)]; omega
        | succ i => exact h3 i b (by simpa using hb)
      · cases h

theorem byte_arg {w : World} {F : Nat → Nat → Prop} {ι : Places} {rows : List (List V)} {s : List UInt8} {x : Value} (hs : rowsBytes rows = some s) (h : ∃ tl, RL w F ι (.sl 1 rows) x tl) :
    ∃ a cap, x = .slice a s.length cap ∧ (s = [] ∨ ∃ b off, a = some ⟨b, off, none⟩ ∧ ∀ i, i < s.length → w.cell? ⟨b, off + i, none⟩ = some (.int .u8 ((s[i]?.getD 0).toNat))) := by
  obtain ⟨tl, h⟩ := h
  obtain ⟨hl, hr⟩ := bytes_len hs
  have := ((RL_other (by simp)).1 h).1
  cases this with
  | pr h =>
    cases h with
    | sl _ _ a cap b off vals hcap hn hk ha hcell hrel =>
      refine ⟨a, cap, by rw [hl], ?_⟩
      by_cases h0 : s = []
      · exact .inl h0
      · refine .inr ⟨b, off, ha (by intro e; subst e; simp at hl; exact h0 (by simpa using hl.symm)), fun i hi => ?_⟩
        have h1 : s[i]? = some s[i] := List.getElem?_eq_getElem hi
        have h2 := hr i _ h1
        have h3 := (hcell i 0 _ _ h2 rfl).1
        have h4 := hrel i 0 _ _ h2 rfl
        have h5 : vals i 0 = .int .u8 (s[i].toNat) := by
          generalize vals i 0 = y at h4
          cases h4; rfl
        rw [h5] at h3
        simpa [h1] using h3

/-- What a copy is. -/
def CloneEnd (w w' : World) (rows : List (List V)) (x : Value) (tl : Option (Nat × Nat)) : Prop :=
  (∀ b n, tl = some (b, n) → w.heap.size ≤ b ∧ b < w'.heap.size) ∧ ∀ F' : Nat → Nat → Prop, (∀ b o, F' b o → b < w.heap.size ∨ ∃ n, tl = some (b, n) ∧ n ≤ o) → RO w' F' 1 rows x tl

def CloneOK (P : Program) (f : Nat) (s : List UInt8) (rows : List (List V)) : Prop := ∀ (w : World) (x : Value) (F : Nat → Nat → Prop) (ι : Places), (∀ b o, F b o → b < w.heap.size) → (∃ tl, RL w F ι (.sl 1 rows) x tl) →
  Calls P f #[x] w fun e w' => ∃ v' tl, e = .returned v' ∧ Below w.heap.size w w' ∧ CloneEnd w w' rows v' tl

theorem clone_own {t : TypeId} {w w' : World} {rows : List (List V)} {s : List UInt8} {v' : Value} (hs : rowsBytes rows = some s) (h : w'.ownsRow w.heap.size t 1 v' s.length ((s.map fun b => (b.toNat : Int)).map (Value.int .u8))) : ∃ tl, CloneEnd w w' rows v' tl := by
  obtain ⟨hl, hr⟩ := bytes_len hs
  obtain ⟨_, h⟩ := h
  rcases h with ⟨rfl, h0⟩ | ⟨g, cap, cur, rfl, hb, hg, h1, h2, h3, h4⟩
  · refine ⟨none, by simp, fun F' _ => ⟨?_, none, 0, by rw [hl, h0], rfl⟩⟩
    have : rows = [] := List.eq_nil_of_length_eq_zero (by omega)
    subst this
    exact .sl 1 [] none 0 0 0 (fun _ _ => Go.undef) (by simp) (fun _ => rfl) (by simp) (by simp) (by simp) (by simp)
  · refine ⟨some (g, s.length), fun b n e => by cases e; exact ⟨hb, lt_of_obj hg⟩, fun F' hF => ⟨?_, some ⟨g, 0, none⟩, cap, by rw [hl], 0, cur, t, (0, 0), rfl, by omega, hg, by omega, fun o _ _ => by simp [World.frozen?, hg]⟩⟩
    have key : ∀ (i j : Nat) (r : List V) (v : V), rows[i]? = some r → r[j]? = some v → j = 0 ∧ i < s.length ∧ ∃ b, s[i]? = some b ∧ v = .int .u8 b.toNat := by
      intro i j r v h5 h6
      have hi : i < s.length := by rw [← hl]; exact (List.getElem?_eq_some_iff.1 h5).1
      have h7 := hr i _ (List.getElem?_eq_getElem hi)
      rw [h7] at h5
      cases h5
      rcases j with _ | j
      · simp at h6; subst h6; exact ⟨rfl, hi, _, List.getElem?_eq_getElem hi, rfl⟩
      · simp at h6
    have := PR.sl (w := w') (F := F') 1 rows (some ⟨g, 0, none⟩) cap g 0 (fun i _ => .int .u8 ((s[i]?.getD 0).toNat)) (by omega) (fun h => by cases h) (fun r hr' => by
        obtain ⟨i, hi⟩ := List.getElem?_of_mem hr'
        have hi2 : i < s.length := by rw [← hl]; exact (List.getElem?_eq_some_iff.1 hi).1
        rw [hr i _ (List.getElem?_eq_getElem hi2)] at hi
        cases hi; rfl) (fun _ => rfl) (fun i j r v h5 h6 => by
        obtain ⟨rfl, hi, b, h7, rfl⟩ := key i j r v h5 h6
        refine ⟨?_, fun hf => ?_⟩
        · rw [cell_of_obj hg]
          have h8 : (cur.toList.take (s.length * 1))[i]? = some (.int .u8 (b.toNat : Int)) := by rw [h4]; simp [h7]
          rw [List.getElem?_take, if_pos (by omega)] at h8
          simpa [h7] using h8
        · rcases hF _ _ hf with h8 | ⟨n, h8, h9⟩
          · omega
          · cases h8; omega) (fun i j r v h5 h6 => by
        obtain ⟨rfl, hi, b, h7, rfl⟩ := key i j r v h5 h6
        simp only [h7, Option.getD_some]
        exact .int _ _)
    rw [hl] at this
    exact this

theorem clone_end {t : TypeId} {w w' : World} {rows : List (List V)} {v' : Value} (hs : rowsBytes rows = some []) (h : (v' = .slice none 0 0 ∧ (0 : Nat) = 0) ∨ False) : CloneEnd w w' rows v' none := by
  obtain ⟨hl, hr⟩ := bytes_len hs
  rcases h with ⟨rfl, _⟩ | h
  · have : rows = [] := List.eq_nil_of_length_eq_zero (by simpa using hl)
    subst this
    exact ⟨by simp, fun F' _ => ⟨.sl 1 [] none 0 0 0 (fun _ _ => Go.undef) (by simp) (fun _ => rfl) (by simp) (by simp) (by simp) (by simp), none, 0, rfl, rfl⟩⟩
  · exact h.elim

theorem clone_real {f : Nat} (hf : f < yBase) (hcal : callable Tryd.prog f = true) {s : List UInt8} {rows : List (List V)} (h : CloneOK Tryd.prog f s rows) (H : Heap) : RealCall (EL Tryd.prog tbl) Tryd.prog f [.sl 1 rows] H (.own 1 rows) H := by
  refine ext_own hf hcal (fun w xs F ι hF _ hl hx => ?_)
  match xs, hl with
  | ⟨[x]⟩, _ =>
    refine (h w x F ι hF (hx 0 _ x rfl rfl)).mono ?_
    rintro e w' ⟨v', tl, rfl, hb, h1, h2⟩
    exact ⟨v', tl, rfl, hb, h1, h2⟩

theorem sclone_nil (n c : Nat) (w : World) : Calls Tryd.prog 52 #[.slice none n c] w fun e w' => e = .returned (.slice none 0 0) ∧ w' = w := by
  have q22 : ∀ (w : World) (a : Option Addr) (n c n' c' : Nat), (binOp .eql 27 (.slice a n c) (.slice none n' c')).run Tryd.prog w = .ok (.bool a.isNone) w := fun w a n c n' c' => Lib.run_eql_slice_nil w _ _ a n c n' c' Tryd.underlying27
  go_enter Tryd.func52, Tryd.ntmps52
  go_wp2
  go_ret
  exact ⟨rfl, rfl⟩

theorem sclone_at (a : Addr) (n c : Nat) (xs : List Int) (w : World) (hx : xs.length = n) (hbig : n ≤ 140737488355328) (hc : ∀ i, i < n → w.cell? (a.add i) = some (.int .u8 (xs.getD i 0))) :
    Calls Tryd.prog 52 #[.slice (some a) n c] w fun e w' => ∃ v', e = .returned v' ∧ w'.ownsRow w.heap.size 5 1 v' n (xs.map (Value.int .u8)) ∧ Below w.heap.size w w' := by
  obtain ⟨i0, hi, hz0, hz1, hz2⟩ := info_parts i5
  have q22 : ∀ (w : World) (a : Option Addr) (n c n' c' : Nat), (binOp .eql 27 (.slice a n c) (.slice none n' c')).run Tryd.prog w = .ok (.bool a.isNone) w := fun w a n c n' c' => Lib.run_eql_slice_nil w _ _ a n c n' c' Tryd.underlying27
  have u22 : ∀ w, Sem.run Tryd.prog (underlying 27) w = .ok (TypeDesc.slice 5) w := run_underlying Tryd.underlying27
  have z5 : ∀ w, Sem.run Tryd.prog (Go.sizeOf 5) w = .ok 1 w := fun w => by simp [Go.sizeOf, typeInfo, hi, hz1]
  have A : Aside (∀ i, i < n → w.cell? (a.add i) = some (.int .u8 (xs.getD i 0))) := hc
  clear hc
  go_enter Tryd.func52, Tryd.ntmps52
  go_wp2_with (at_builtin; refine wpList_append_own _ rfl _ _ 27 rfl w.heap.size 5 i0 (.int .u8 0) 1 1 Tryd.underlying27 hi hz0 hz1 hz2 rfl (by decide) _ _ _ rfl (World.ownsRow_made w #[] 0 (Nat.le_refl _) (Nat.zero_le _) rfl) a n c (xs.map (Value.int .u8)) rfl ?qc1 ?qc2 ?qc3 ?qc4 ?qc5 ?qc6 ?_)
  case qc1 => simp; omega
  case qc2 =>
    intro j u hj
    have hjn : j < n := by
      have := (List.getElem?_eq_some_iff.1 hj).1
      simp at this
      omega
    refine Lib.cell?_alloc_some _ ?_
    rw [A.out j hjn]
    have e : (xs.map (Value.int .u8))[j]? = some (Value.int .u8 (xs.getD j 0)) := by simp [List.getD, List.getElem?_eq_getElem (show j < xs.length by omega)]
    rw [e] at hj
    exact hj
  case qc3 => intro u hu; obtain ⟨x, _, rfl⟩ := List.mem_map.1 hu; rfl
  case qc4 => unfold maxLen; omega
  case qc5 => omega
  case qc6 => simp
  intro v' w1 hown hgrow hnil
  go_wp2
  go_ret
  exact ⟨v', rfl, by simpa using hown, ((Below.refl _ w).alloc (Nat.le_refl _) _).grown hgrow (by simp) (by intro k hk; simp [Value.ownBlock] at hk; omega)⟩

theorem sclone_walk {s : List UInt8} {rows : List (List V)} (hs : rowsBytes rows = some s) (hn : s.length ≤ 1000000000) : CloneOK Tryd.prog 52 s rows := by
  intro w x F ι hF hR
  obtain ⟨a, cap, rfl, hsome⟩ := byte_arg hs hR
  cases a with
  | none =>
    refine (sclone_nil _ _ w).mono ?_
    rintro e w' ⟨rfl, rfl⟩
    have h0 : s = [] := by
      rcases hsome with h | ⟨_, _, h, _⟩
      · exact h
      · cases h
    subst h0
    exact ⟨_, _, rfl, Below.refl _ _, clone_end (t := 5) hs (.inl ⟨rfl, rfl⟩)⟩
  | some ad =>
    refine (sclone_at ad s.length cap (s.map fun b => (b.toNat : Int)) w (by simp) (by omega) (fun i hi => ?_)).mono ?_
    · rcases hsome with h | ⟨b, off, h, h2⟩
      · subst h; simp at hi
      · cases h
        have := h2 i hi
        rw [Addr.add_lit]
        simpa [List.getD, hi] using this
    · rintro e w' ⟨v', rfl, hown, hb⟩
      obtain ⟨tl, h1⟩ := clone_own hs hown
      exact ⟨v', tl, rfl, hb, h1⟩

theorem bclone_nil (n c : Nat) (w : World) : Calls Tryd.prog 57 #[.slice none n c] w fun e w' => e = .returned (.slice none 0 0) ∧ w' = w := by
  have q22 : ∀ (w : World) (a : Option Addr) (n c n' c' : Nat), (binOp .eql 27 (.slice a n c) (.slice none n' c')).run Tryd.prog w = .ok (.bool a.isNone) w := fun w a n c n' c' => Lib.run_eql_slice_nil w _ _ a n c n' c' Tryd.underlying27
  go_enter Tryd.func57, Tryd.ntmps57
  go_wp2
  go_ret
  exact ⟨rfl, rfl⟩

theorem bclone_at (a : Addr) (n c : Nat) (xs : List Int) (w : World) (hx : xs.length = n) (hbig : n ≤ 140737488355328) (hc : ∀ i, i < n → w.cell? (a.add i) = some (.int .u8 (xs.getD i 0))) :
    Calls Tryd.prog 57 #[.slice (some a) n c] w fun e w' => ∃ v', e = .returned v' ∧ w'.ownsRow w.heap.size 5 1 v' n (xs.map (Value.int .u8)) ∧ Below w.heap.size w w' := by
  obtain ⟨i0, hi, hz0, hz1, hz2⟩ := info_parts i5
  have q22 : ∀ (w : World) (a : Option Addr) (n c n' c' : Nat), (binOp .eql 27 (.slice a n c) (.slice none n' c')).run Tryd.prog w = .ok (.bool a.isNone) w := fun w a n c n' c' => Lib.run_eql_slice_nil w _ _ a n c n' c' Tryd.underlying27
  have u22 : ∀ w, Sem.run Tryd.prog (underlying 27) w = .ok (TypeDesc.slice 5) w := run_underlying Tryd.underlying27
  have z5 : ∀ w, Sem.run Tryd.prog (Go.sizeOf 5) w = .ok 1 w := fun w => by simp [Go.sizeOf, typeInfo, hi, hz1]
  have A : Aside (∀ i, i < n → w.cell? (a.add i) = some (.int .u8 (xs.getD i 0))) := hc
  clear hc
  go_enter Tryd.func57, Tryd.ntmps57
  go_wp2_with (at_builtin; refine wpList_append_own _ rfl _ _ 27 rfl w.heap.size 5 i0 (.int .u8 0) 1 1 Tryd.underlying27 hi hz0 hz1 hz2 rfl (by decide) _ _ _ rfl (World.ownsRow_made w #[] 0 (Nat.le_refl _) (Nat.zero_le _) rfl) a n c (xs.map (Value.int .u8)) rfl ?qc1 ?qc2 ?qc3 ?qc4 ?qc5 ?qc6 ?_)
  case qc1 => simp; omega
  case qc2 =>
    intro j u hj
    have hjn : j < n := by
      have := (List.getElem?_eq_some_iff.1 hj).1
      simp at this
      omega
    refine Lib.cell?_alloc_some _ ?_
    rw [A.out j hjn]
    have e : (xs.map (Value.int .u8))[j]? = some (Value.int .u8 (xs.getD j 0)) := by simp [List.getD, List.getElem?_eq_getElem (show j < xs.length by omega)]
    rw [e] at hj
    exact hj
  case qc3 => intro u hu; obtain ⟨x, _, rfl⟩ := List.mem_map.1 hu; rfl
  case qc4 => unfold maxLen; omega
  case qc5 => omega
  case qc6 => simp
  intro v' w1 hown hgrow hnil
  go_wp2
  go_ret
  exact ⟨v', rfl, by simpa using hown, ((Below.refl _ w).alloc (Nat.le_refl _) _).grown hgrow (by simp) (by intro k hk; simp [Value.ownBlock] at hk; omega)⟩

theorem bclone_walk {s : List UInt8} {rows : List (List V)} (hs : rowsBytes rows = some s) (hn : s.length ≤ 1000000000) : CloneOK Tryd.prog 57 s rows := by
  intro w x F ι hF hR
  obtain ⟨a, cap, rfl, hsome⟩ := byte_arg hs hR
  cases a with
  | none =>
    refine (bclone_nil _ _ w).mono ?_
    rintro e w' ⟨rfl, rfl⟩
    have h0 : s = [] := by
      rcases hsome with h | ⟨_, _, h, _⟩
      · exact h
      · cases h
    subst h0
    exact ⟨_, _, rfl, Below.refl _ _, clone_end (t := 5) hs (.inl ⟨rfl, rfl⟩)⟩
  | some ad =>
    refine (bclone_at ad s.length cap (s.map fun b => (b.toNat : Int)) w (by simp) (by omega) (fun i hi => ?_)).mono ?_
    · rcases hsome with h | ⟨b, off, h, h2⟩
      · subst h; simp at hi
      · cases h
        have := h2 i hi
        rw [Addr.add_lit]
        simpa [List.getD, hi] using this
    · rintro e w' ⟨v', rfl, hown, hb⟩
      obtain ⟨tl, h1⟩ := clone_own hs hown
      exact ⟨v', tl, rfl, hb, h1⟩

end Go.Proofs.YteafmhnbeobboaaDoor.cln
