/-
  slices.Clone of an empty list, walked by hand; of another list it is the abstract code.
-/
import Derived.Test.YtbgblfbbeamleaaGreatDoorExt
import Derived.Test.YtbgblfbbeamleaaGreatDoorSpc
import Derived.Test.YtbgblfbbeamleaaGreatDoorCheck
import Derived.WalkKit
import Derived.OwnWalk
import Derived.Lib.Walk
import Derived.Lib.SliceRun
import Derived.Shelf.RegionOpenPlain
import Derived.Laws.AppendOwn
namespace Go.Proofs.YtbgblfbbeamleaaGreatDoor.ones
open Go.AM Go.RowKit Go.Shelf Go.Lib
set_option linter.unusedVariables false
set_option linter.unusedSimpArgs false
set_option maxHeartbeats 2000000
set_option maxRecDepth 100000
variable {lim : Option Nat}

theorem one_real {f k : Nat} (hf : f < yBase) (hcal : callable Tryz.prog f = true)
    (hz : ∀ (a : Option Addr) (c : Nat) (w : World), Calls Tryz.prog f #[.slice a 0 c] w fun e w' => ∃ a' c', e = .returned (.slice a' 0 c') ∧ (a' = none → c' = 0) ∧ Below w.heap.size w w')
    {args : List V} {H : Heap} {r : V} {H' : Heap} (h : xOne tbl f k args H = some (r, H')) : RealCall (EL Tryz.prog tbl lim) Tryz.prog f args H r H' := by
  unfold xOne at h
  split at h
  · split at h <;> cases h
    rename_i e
    subst e
    refine ext_real2 hf hcal (fun _ _ h => by cases h) (fun w xs F ι hF hgl hl hx => ?_)
    obtain ⟨x, rfl⟩ : ∃ x, xs = #[x] := by
      obtain ⟨l⟩ := xs
      match l, hl with
      | [x], _ => exact ⟨x, rfl⟩
    obtain ⟨tl, r0⟩ := hx 0 _ x rfl rfl
    have h0 := ((RL_other (by simp)).1 r0).1
    cases h0 with
    | pr h0 =>
      cases h0 with
      | sl _ _ a cap b off vals hcap hn hk ha hcell hrel =>
        refine (hz a cap w).mono ?_
        rintro e w' ⟨a', c', rfl, hc', hb⟩
        exact ⟨_, rfl, hb, .pr (.sl _ [] a' c' 0 0 (fun _ _ => default) (Nat.zero_le _) hc' (by simp) (by simp) (by simp) (by simp))⟩
  · exact run_sound fits fitsW (fun _ _ _ h => by cases h) (fun _ => drw_ok) 3 _ _ _ _ _ h lim (fun h => by rw [wideNo_lt hf] at h; cases h)

noncomputable def zE : Value := ((Tryz.prog.info? 43).bind (·.zero)).getD default
theorem iE : (Tryz.prog.info? 43).map (fun i => (i.zero, i.size, i.bytes)) = some (some zE, 38, 96) := by kernel_rfl
theorem sE : zE.cells.size = 38 := by kernel_rfl

theorem nilE (c : Nat) (w : World) : Calls Tryz.prog 56 #[.slice none 0 c] w fun e w' => e = .returned (.slice none 0 0) ∧ w' = w := by
  have q22 : ∀ (w : World) (a : Option Addr) (n c n' c' : Nat), (binOp .eql 22 (.slice a n c) (.slice none n' c')).run Tryz.prog w = .ok (.bool a.isNone) w := fun w a n c n' c' => Lib.run_eql_slice_nil w _ _ a n c n' c' Tryz.underlying22
  go_enter Tryz.func56, Tryz.ntmps56
  go_wp2
  go_ret
  exact ⟨rfl, rfl⟩

theorem atE (a : Addr) (c : Nat) (w : World) : Calls Tryz.prog 56 #[.slice (some a) 0 c] w fun e w' => ∃ v', e = .returned v' ∧ w'.ownsRow w.heap.size 43 38 v' 0 [] ∧ Below w.heap.size w w' := by
  obtain ⟨i0, hi, hz0, hz1, hz2⟩ := info_parts iE
  have q22 : ∀ (w : World) (a : Option Addr) (n c n' c' : Nat), (binOp .eql 22 (.slice a n c) (.slice none n' c')).run Tryz.prog w = .ok (.bool a.isNone) w := fun w a n c n' c' => Lib.run_eql_slice_nil w _ _ a n c n' c' Tryz.underlying22
  have u22 : ∀ w, Sem.run Tryz.prog (underlying 22) w = .ok (TypeDesc.slice 43) w := run_underlying Tryz.underlying22
  have z5 : ∀ w, Sem.run Tryz.prog (Go.sizeOf 43) w = .ok 38 w := fun w => by simp [Go.sizeOf, typeInfo, hi, hz1]
  go_enter Tryz.func56, Tryz.ntmps56
  go_wp2_with (at_builtin; refine wpList_append_own _ rfl _ _ 22 rfl w.heap.size 43 i0 zE 38 96 Tryz.underlying22 hi hz0 hz1 hz2 sE (by decide) _ _ _ rfl (World.ownsRow_made w #[] 0 (Nat.le_refl _) (Nat.zero_le _) rfl) a 0 c [] rfl rfl (by simp) (by simp) (Nat.zero_le _) (by simp) (by simp) ?_)
  intro v' w1 hown hgrow hnil
  go_wp2
  go_ret
  exact ⟨v', rfl, by simpa using hown, ((Below.refl _ w).alloc (Nat.le_refl _) _).grown hgrow (by simp) (by intro k hk; simp [Value.ownBlock] at hk; omega)⟩

theorem walkE (a : Option Addr) (c : Nat) (w : World) : Calls Tryz.prog 56 #[.slice a 0 c] w fun e w' => ∃ a' c', e = .returned (.slice a' 0 c') ∧ (a' = none → c' = 0) ∧ Below w.heap.size w w' := by
  cases a with
  | none =>
    refine (nilE c w).mono ?_
    rintro e w' ⟨rfl, rfl⟩
    exact ⟨_, _, rfl, fun _ => rfl, Below.refl _ _⟩
  | some a =>
    refine (atE a c w).mono ?_
    rintro e w' ⟨v', rfl, h, hb⟩
    rcases h.2 with ⟨rfl, _⟩ | ⟨g, cap, cur, rfl, _⟩
    · exact ⟨_, _, rfl, fun _ => rfl, hb⟩
    · exact ⟨_, _, rfl, (fun h => by cases h), hb⟩

noncomputable def zT : Value := ((Tryz.prog.info? 38).bind (·.zero)).getD default
theorem iT : (Tryz.prog.info? 38).map (fun i => (i.zero, i.size, i.bytes)) = some (some zT, 2, 16) := by kernel_rfl
theorem sT : zT.cells.size = 2 := by kernel_rfl

theorem nilT (c : Nat) (w : World) : Calls Tryz.prog 57 #[.slice none 0 c] w fun e w' => e = .returned (.slice none 0 0) ∧ w' = w := by
  have q22 : ∀ (w : World) (a : Option Addr) (n c n' c' : Nat), (binOp .eql 41 (.slice a n c) (.slice none n' c')).run Tryz.prog w = .ok (.bool a.isNone) w := fun w a n c n' c' => Lib.run_eql_slice_nil w _ _ a n c n' c' Tryz.underlying41
  go_enter Tryz.func57, Tryz.ntmps57
  go_wp2
  go_ret
  exact ⟨rfl, rfl⟩

theorem atT (a : Addr) (c : Nat) (w : World) : Calls Tryz.prog 57 #[.slice (some a) 0 c] w fun e w' => ∃ v', e = .returned v' ∧ w'.ownsRow w.heap.size 38 2 v' 0 [] ∧ Below w.heap.size w w' := by
  obtain ⟨i0, hi, hz0, hz1, hz2⟩ := info_parts iT
  have q22 : ∀ (w : World) (a : Option Addr) (n c n' c' : Nat), (binOp .eql 41 (.slice a n c) (.slice none n' c')).run Tryz.prog w = .ok (.bool a.isNone) w := fun w a n c n' c' => Lib.run_eql_slice_nil w _ _ a n c n' c' Tryz.underlying41
  have u22 : ∀ w, Sem.run Tryz.prog (underlying 41) w = .ok (TypeDesc.slice 38) w := run_underlying Tryz.underlying41
  have z5 : ∀ w, Sem.run Tryz.prog (Go.sizeOf 38) w = .ok 2 w := fun w => by simp [Go.sizeOf, typeInfo, hi, hz1]
  go_enter Tryz.func57, Tryz.ntmps57
  go_wp2_with (at_builtin; refine wpList_append_own _ rfl _ _ 41 rfl w.heap.size 38 i0 zT 2 16 Tryz.underlying41 hi hz0 hz1 hz2 sT (by decide) _ _ _ rfl (World.ownsRow_made w #[] 0 (Nat.le_refl _) (Nat.zero_le _) rfl) a 0 c [] rfl rfl (by simp) (by simp) (Nat.zero_le _) (by simp) (by simp) ?_)
  intro v' w1 hown hgrow hnil
  go_wp2
  go_ret
  exact ⟨v', rfl, by simpa using hown, ((Below.refl _ w).alloc (Nat.le_refl _) _).grown hgrow (by simp) (by intro k hk; simp [Value.ownBlock] at hk; omega)⟩

theorem walkT (a : Option Addr) (c : Nat) (w : World) : Calls Tryz.prog 57 #[.slice a 0 c] w fun e w' => ∃ a' c', e = .returned (.slice a' 0 c') ∧ (a' = none → c' = 0) ∧ Below w.heap.size w w' := by
  cases a with
  | none =>
    refine (nilT c w).mono ?_
    rintro e w' ⟨rfl, rfl⟩
    exact ⟨_, _, rfl, fun _ => rfl, Below.refl _ _⟩
  | some a =>
    refine (atT a c w).mono ?_
    rintro e w' ⟨v', rfl, h, hb⟩
    rcases h.2 with ⟨rfl, _⟩ | ⟨g, cap, cur, rfl, _⟩
    · exact ⟨_, _, rfl, fun _ => rfl, hb⟩
    · exact ⟨_, _, rfl, (fun h => by cases h), hb⟩

end Go.Proofs.YtbgblfbbeamleaaGreatDoor.ones
