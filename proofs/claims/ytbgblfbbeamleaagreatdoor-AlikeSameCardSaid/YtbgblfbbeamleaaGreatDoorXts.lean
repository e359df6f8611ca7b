/-
  The functions taken as given: their contracts, over the program.
-/
import Derived.Test.YtbgblfbbeamleaaGreatDoorExt
import Derived.Test.YtbgblfbbeamleaaGreatDoorSpc
import Derived.Test.YtbgblfbbeamleaaGreatDoorCheck
import Derived.Test.YtbgblfbbeamleaaGreatDoorShelf
import Derived.WalkKit
import Derived.ProofKit
import Derived.Test.YtbgblfbbeamleaaGreatDoorOnes
import Derived.Test.YtbgblfbbeamleaaGreatDoorSup
import Derived.Test.YtbgblfbbeamleaaGreatDoorBld
import Derived.Test.YtbgblfbbeamleaaGreatDoorBls
namespace Go.Proofs.YtbgblfbbeamleaaGreatDoor.exts
open Go.AM Go.AM.Spec Go.RowKit Go.Lib Go.Shelf
set_option linter.unusedVariables false
set_option linter.unusedSimpArgs false
set_option maxHeartbeats 1000000
set_option maxRecDepth 10000
variable {lim : Option Nat}


theorem globs_eq : globs Tryz.prog = [1] := by kernel_rfl

theorem two {xs : Array Value} {a b : V} (h : xs.size = [a, b].length) : ∃ x0 x1, xs = #[x0, x1] := by
  obtain ⟨l⟩ := xs
  match l, h with
  | [x, y], _ => exact ⟨x, y, rfl⟩

theorem toArray_data (s : List UInt8) : (⟨s.toArray⟩ : ByteArray).data.toList = s := rfl

theorem tabs_eq : tabs Tryz.prog = [(0, spaceTab)] := by
  have h : tabIds Tryz.prog = [0] := by kernel_rfl
  unfold tabs
  rw [h]; rfl

theorem fields_real (s : List UInt8) (hs : s.length < 4294967281) (ha : (s.all fun b => decide (b.toNat < 128)) = true) (H : Heap) : RealCall (EL Tryz.prog tbl lim) Tryz.prog n_strings_Fields [.str s] H (.sl 1 ((Go.Lib.fields s).map tx)) H := by
  refine ext_real2 lt_strings_Fields (by kernel_rfl) (fun _ _ h => by cases h) (fun w xs F ι hF hgl hl hx => ?_)
  obtain ⟨x0, rfl⟩ : ∃ x0, xs = #[x0] := by
    obtain ⟨l⟩ := xs
    match l, hl with
    | [x], _ => exact ⟨x, rfl⟩
  obtain ⟨_, r0⟩ := hx 0 _ x0 rfl rfl
  rw [RL_str r0]
  have htab : ∀ c : Nat, c < 256 → w.cell? ⟨Tryz.lays157_ren.g 0, c, none⟩ = some (.int .u8 (if Lib.isSp (UInt8.ofNat c) then 1 else 0)) := by
    intro c hc
    have := hgl.2 (0, spaceTab) (by show _ ∈ tabs Tryz.prog; rw [tabs_eq]; simp) c (.int .u8 (if Lib.isSp (UInt8.ofNat c) then 1 else 0)) (by
      unfold spaceTab
      rw [List.getElem?_map]
      have h1 := asciiSpaceTab_at c hc
      have h2 : c < asciiSpaceTab.length := by rw [asciiSpaceTab_length]; exact hc
      rw [List.getD_eq_getElem?_getD, List.getElem?_eq_getElem h2] at h1
      rw [List.getElem?_eq_getElem h2]
      simp only [Option.getD_some] at h1
      rw [Option.map_some, h1])
    exact this
  refine (Any.strings_Fields_core Tryz.lays157 (by kernel_rfl) ⟨s.toArray⟩ w hs (fun j b hb => by simpa using List.all_eq_true.1 ha b (List.mem_of_getElem? hb)) htab).mono ?_
  rintro e w' ⟨rfl, rfl⟩
  refine ⟨_, rfl, (Below.refl _ w).alloc (Nat.le_refl _) _, ?_⟩
  exact R_texts (w := w.alloc (.cells ((Lib.fields s).map fun l => Value.string ⟨l.toArray⟩).toArray (Tryz.lays157_ren.t 9))) (F := F) (ι := ι) (Lib.fields s) w.heap.size (fun o h => Nat.lt_irrefl _ (hF _ _ h)) (fun j x hx => by
    rw [World.cell?_alloc_at _ _ _ _ rfl]
    simp [hx])

theorem repeat_real (s : List UInt8) (n : Int) (h1 : 0 ≤ n) (h2 : n ≤ 1000000) (h3 : s.length ≤ 1000) (H : Heap) : RealCall (EL Tryz.prog tbl lim) Tryz.prog n_strings_Repeat [.str s, .int .i64 n] H (.str (Go.Lib.repeatL s n.toNat)) H := by
  refine ext_real (r := .str _) (x := .string ⟨(Go.Lib.repeatL s n.toNat).toArray⟩) lt_strings_Repeat (by kernel_rfl) (fun w F ι => .pr (.str _)) (fun _ _ h => by cases h) (fun w xs hgl hl hx => ?_)
  obtain ⟨x0, x1, rfl⟩ := two hl
  obtain ⟨_, _, _, r0⟩ := hx 0 _ x0 rfl rfl
  obtain ⟨_, _, _, r1⟩ := hx 1 _ x1 rfl rfl
  rw [RL_str r0, RL_int r1]
  have e : n = ((n.toNat : Nat) : Int) := by omega
  have hsz : s.toArray.size ≤ 1000 := by simpa using h3
  have hm : s.toArray.size * n.toNat ≤ 140737488355328 := Nat.le_trans (Nat.mul_le_mul hsz (show n.toNat ≤ 1000000 by omega)) (by decide)
  have := Tryz.strings_Repeat ⟨s.toArray⟩ n.toNat w (by omega) hm
  rw [← e] at this
  exact this

theorem none1 {xs : Array Value} (h : xs.size = ([] : List V).length) : xs = #[] := by
  obtain ⟨l⟩ := xs
  match l, h with
  | [], _ => rfl

theorem super_real (H : Heap) : RealCall (EL Tryz.prog tbl lim) Tryz.prog n_layout_super [] H (.agg superCells) H := by
  refine ext_real (r := .agg _) (x := .agg sup.supV) lt_layout_super (by kernel_rfl) (fun w F ι => ?_) (fun _ _ h => by cases h) (fun w xs hgl hl hx => ?_)
  · have e : superCells = sup.supL.map (V.int .u8) := rfl
    rw [e]
    refine .agg _ _ (by simp) fun j v x h1 h2 => ?_
    rw [List.getElem?_map, Option.map_eq_some_iff] at h1
    obtain ⟨n, hn, rfl⟩ := h1
    have : x = .int .u8 n := by
      simp only [sup.supV, List.getElem?_toArray, List.getElem?_map, Option.map_eq_some_iff] at h2
      obtain ⟨m, hm, rfl⟩ := h2
      rw [hn] at hm
      cases hm
      rfl
    subst this
    exact .pr (.int _ _)
  · rw [none1 hl]
    exact sup.super_calls w hgl

theorem wstring_real {T : Nat} (hT : T = Go.AM.bT ∨ T = Go.AM.bP) {i : Nat} {bs s : List UInt8} {H : Heap} (hb : H[i]? = some (some [.bld T Go.AM.bE bs])) (h1 : bs.length < 100000000) (h2 : s.length < 100000000) :
    RealCall (EL Tryz.prog tbl lim) Tryz.prog n_pstrings_Builder_WriteString [.bptr i, .str s] H (.tup [.int .i64 s.length, .undef]) (H.set i (some [.bld T Go.AM.bE (bs ++ s)])) := by
  refine wrt_real lt_pstrings_Builder_WriteString (by kernel_rfl) (vs := [.string ⟨s.toArray⟩]) hb (fun _ _ h => by cases h) (fun w F ι xs hl hx => ?_) (bls.writeS hT bs s (by omega))
  match xs, hl with
  | [x], _ =>
    obtain ⟨tl, hR⟩ := hx 0 _ x rfl rfl
    rw [RL_str hR]

theorem bstring_real {T i : Nat} {bs : List UInt8} {H : Heap} (hb : H[i]? = some (some [.bld T Go.AM.bE bs])) :
    RealCall (EL Tryz.prog tbl lim) Tryz.prog n_pstrings_Builder_String [.bptr i] H (.str bs) (H.set i none) := shw_real lt_pstrings_Builder_String (by kernel_rfl) hb (bld.show_ok T bs)

theorem exts_ok : ∀ k e, noExt k = some e → ∀ args H r H', e args H = some (r, H') → RealCall (EL Tryz.prog tbl lim) Tryz.prog k args H r H' := by
  intro k e he args H r H' h
  unfold noExt at he
  split at he
  · rename_i hk
    subst hk
    cases he
    unfold xFields at h
    split at h
    · split at h
      · rename_i hs; cases h; exact fields_real _ hs.1 hs.2 _
      · cases h
    · cases h
  · split at he
    · rename_i hk
      subst hk
      cases he
      unfold xRepeat at h
      split at h
      · split at h
        · rename_i hs
          cases h
          exact repeat_real _ _ hs.1 hs.2.1 hs.2.2 _
        · cases h
      · cases h
    · split at he
      · rename_i hk
        subst hk
        cases he
        unfold xSuper at h
        split at h
        · cases h
          exact super_real _
        · cases h
      · split at he
        · rename_i hk
          subst hk
          cases he
          unfold xWriteString at h
          split at h
          · split at h
            · rename_i hb
              split at h
              · rename_i hh
                obtain ⟨hT, rfl, h1, h2⟩ := hh
                cases h
                exact wstring_real hT hb h1 h2
              · cases h
            · cases h
          · cases h
        · split at he
          · rename_i hk
            subst hk
            cases he
            unfold xString at h
            split at h
            · split at h
              · rename_i hb
                split at h
                · rename_i hh
                  obtain ⟨hT, rfl⟩ := hh
                  cases h
                  exact bstring_real hb
                · cases h
              · cases h
            · cases h
          · split at he
            · rename_i hk
              subst hk
              cases he
              exact ones.one_real lt_slices_Clone_api_Event_api_Event (by kernel_rfl) ones.walkE h
            · split at he
              · rename_i hk
                subst hk
                cases he
                exact ones.one_real lt_slices_Clone_api_Tag_api_Tag (by kernel_rfl) ones.walkT h
              · cases he

end Go.Proofs.YtbgblfbbeamleaaGreatDoor.exts
