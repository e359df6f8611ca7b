/-
  The functions taken as given: their contracts, over the program.
-/
import Derived.Test.YteafmhnbeobboaaDoorExt
import Derived.Test.YteafmhnbeobboaaDoorSpc
import Derived.Test.YteafmhnbeobboaaDoorCheck
import Derived.Test.YteafmhnbeobboaaDoorShelf
import Derived.WalkKit
import Derived.ProofKit
import Derived.Test.YteafmhnbeobboaaDoorCln
namespace Go.Proofs.YteafmhnbeobboaaDoor.exts
open Go.AM Go.AM.Spec Go.RowKit Go.Lib Go.Shelf
set_option linter.unusedVariables false
set_option linter.unusedSimpArgs false
set_option maxHeartbeats 1000000
set_option maxRecDepth 10000

theorem globs_eq : globs Tryd.prog = [2] := by kernel_rfl

theorem two {xs : Array Value} {a b : V} (h : xs.size = [a, b].length) : ∃ x0 x1, xs = #[x0, x1] := by
  obtain ⟨l⟩ := xs
  match l, h with
  | [x, y], _ => exact ⟨x, y, rfl⟩

theorem toArray_data (s : List UInt8) : (⟨s.toArray⟩ : ByteArray).data.toList = s := rfl

theorem join_real (v : V) (rows : List (List V)) (hv : v = .sl 1 rows ∨ v = .own 1 rows) (sep : List UInt8) (ws : List (List UInt8)) (ht : textsOf rows = some ws) (h1 : (Lib.join ws sep).length ≤ 140737488355328) (h2 : ws.length ≤ 140737488355328) (H : Heap) :
    RealCall (EL Tryd.prog tbl) Tryd.prog n_strings_Join [v, .str sep] H (.str (Lib.join ws sep)) H := by
  refine ext_real2 lt_strings_Join (by kernel_rfl) (fun _ _ h => by cases h) (fun w xs F ι hF hgl hl hx => ?_)
  obtain ⟨x0, x1, rfl⟩ := two hl
  obtain ⟨_, r0⟩ := hx 0 _ x0 rfl rfl
  obtain ⟨_, r1⟩ := hx 1 _ x1 rfl rfl
  rw [RL_str r1]
  obtain ⟨a, cap, rfl, hc⟩ := RL_texts hv r0 ht
  have hmap : (ws.map fun x => (⟨x.toArray⟩ : ByteArray)).map (·.data.toList) = ws := by
    rw [List.map_map]; exact List.map_id'' (fun x => rfl) ws
  rcases hc with rfl | ⟨b, off, rfl, hb, hcap, hcells⟩
  · refine (Tryd.strings_Join_none a cap ⟨sep.toArray⟩ w).mono ?_
    rintro e w' ⟨rfl, rfl⟩
    exact ⟨_, rfl, Below.refl _ _, .pr (.str [])⟩
  · have hj := Tryd.strings_Join b off cap (ws.map fun x => (⟨x.toArray⟩ : ByteArray)) ⟨sep.toArray⟩ w (fun j x hx => by
      rw [List.getElem?_map, Option.map_eq_some_iff] at hx
      obtain ⟨y, hy, rfl⟩ := hx
      exact hcells j y hy) hb (by simpa using h2) (by simpa using hcap) (by rw [hmap]; exact h1)
    rw [hmap, List.length_map] at hj
    refine hj.mono ?_
    rintro e w' ⟨rfl, hbl⟩
    exact ⟨_, rfl, hbl, .pr (.str _)⟩

theorem tabs_eq : tabs Tryd.prog = [(0, spaceTab)] := by
  have h : tabIds Tryd.prog = [0] := by kernel_rfl
  unfold tabs
  rw [h]; rfl

theorem fields_real (s : List UInt8) (hs : s.length < 4294967281) (ha : (s.all fun b => decide (b.toNat < 128)) = true) (H : Heap) : RealCall (EL Tryd.prog tbl) Tryd.prog n_strings_Fields [.str s] H (.sl 1 ((Go.Lib.fields s).map tx)) H := by
  refine ext_real2 lt_strings_Fields (by kernel_rfl) (fun _ _ h => by cases h) (fun w xs F ι hF hgl hl hx => ?_)
  obtain ⟨x0, rfl⟩ : ∃ x0, xs = #[x0] := by
    obtain ⟨l⟩ := xs
    match l, hl with
    | [x], _ => exact ⟨x, rfl⟩
  obtain ⟨_, r0⟩ := hx 0 _ x0 rfl rfl
  rw [RL_str r0]
  have htab : ∀ c : Nat, c < 256 → w.cell? ⟨Tryd.lays157_ren.g 0, c, none⟩ = some (.int .u8 (if Lib.isSp (UInt8.ofNat c) then 1 else 0)) := by
    intro c hc
    have := hgl.2 (0, spaceTab) (by show _ ∈ tabs Tryd.prog; rw [tabs_eq]; simp) c (.int .u8 (if Lib.isSp (UInt8.ofNat c) then 1 else 0)) (by
      unfold spaceTab
      rw [List.getElem?_map]
      have h1 := asciiSpaceTab_at c hc
      have h2 : c < asciiSpaceTab.length := by rw [asciiSpaceTab_length]; exact hc
      rw [List.getD_eq_getElem?_getD, List.getElem?_eq_getElem h2] at h1
      rw [List.getElem?_eq_getElem h2]
      simp only [Option.getD_some] at h1
      rw [Option.map_some, h1])
    exact this
  refine (Any.strings_Fields_core Tryd.lays157 (by kernel_rfl) ⟨s.toArray⟩ w hs (fun j b hb => by simpa using List.all_eq_true.1 ha b (List.mem_of_getElem? hb)) htab).mono ?_
  rintro e w' ⟨rfl, rfl⟩
  refine ⟨_, rfl, (Below.refl _ w).alloc (Nat.le_refl _) _, ?_⟩
  exact R_texts (w := w.alloc (.cells ((Lib.fields s).map fun l => Value.string ⟨l.toArray⟩).toArray (Tryd.lays157_ren.t 9))) (F := F) (ι := ι) (Lib.fields s) w.heap.size (fun o h => Nat.lt_irrefl _ (hF _ _ h)) (fun j x hx => by
    rw [World.cell?_alloc_at _ _ _ _ rfl]
    simp [hx])

theorem sclone_real {rows : List (List V)} {s : List UInt8} (hs : rowsBytes rows = some s) (hn : s.length ≤ 1000000000) (H : Heap) : RealCall (EL Tryd.prog tbl) Tryd.prog n_slices_Clone_byte_byte [.sl 1 rows] H (.own 1 rows) H :=
  cln.clone_real lt_slices_Clone_byte_byte (by kernel_rfl) (cln.sclone_walk hs hn) H

theorem bclone_real {rows : List (List V)} {s : List UInt8} (hs : rowsBytes rows = some s) (hn : s.length ≤ 1000000000) (H : Heap) : RealCall (EL Tryd.prog tbl) Tryd.prog n_bytes_Clone [.sl 1 rows] H (.own 1 rows) H :=
  cln.clone_real lt_bytes_Clone (by kernel_rfl) (cln.bclone_walk hs hn) H

theorem exts_ok : ∀ k e, noExt k = some e → ∀ args H r H', e args H = some (r, H') → RealCall (EL Tryd.prog tbl) Tryd.prog k args H r H' := by
  intro k e he args H r H' h
  unfold noExt at he
  split at he
  · rename_i hk
    subst hk
    cases he
    unfold xJoin at h
    split at h
    · split at h
      · rename_i ht
        split at h
        · rename_i hc; cases h; exact join_real _ _ (.inl rfl) _ _ ht hc.1 hc.2 _
        · cases h
      · cases h
    · split at h
      · rename_i ht
        split at h
        · rename_i hc; cases h; exact join_real _ _ (.inr rfl) _ _ ht hc.1 hc.2 _
        · cases h
      · cases h
    · cases h
  · split at he
    · rename_i hk
      subst hk
      cases he
      unfold xFields at h
      split at h
      · split at h
        · rename_i hs; cases h; exact fields_real _ hs.1 hs.2 _
        · cases h
      · cases h
    · split at he
      · rename_i hk
        subst hk
        cases he
        unfold xClone at h
        split at h
        · split at h
          · rename_i hs
            split at h
            · rename_i hn
              cases h
              exact sclone_real hs hn _
            · cases h
          · cases h
        · cases h
      · split at he
        · rename_i hk
          subst hk
          cases he
          unfold xClone at h
          split at h
          · split at h
            · rename_i hs
              split at h
              · rename_i hn
                cases h
                exact bclone_real hs hn _
              · cases h
            · cases h
          · cases h
        · cases he

end Go.Proofs.YteafmhnbeobboaaDoor.exts
