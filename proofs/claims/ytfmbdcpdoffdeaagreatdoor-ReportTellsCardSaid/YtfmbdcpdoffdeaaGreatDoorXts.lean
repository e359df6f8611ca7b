/-
  The functions taken as given: their contracts, over the program.
-/
import Derived.Test.YtfmbdcpdoffdeaaGreatDoorExt
import Derived.Test.YtfmbdcpdoffdeaaGreatDoorSpc
import Derived.Test.YtfmbdcpdoffdeaaGreatDoorCheck
import Derived.Test.YtfmbdcpdoffdeaaGreatDoorShelf
import Derived.WalkKit
import Derived.ProofKit
import Derived.Test.YtfmbdcpdoffdeaaGreatDoorBld
import Derived.Test.YtfmbdcpdoffdeaaGreatDoorBls
namespace Go.Proofs.YtfmbdcpdoffdeaaGreatDoor.exts
open Go.AM Go.AM.Spec Go.RowKit Go.Lib Go.Shelf
set_option linter.unusedVariables false
set_option linter.unusedSimpArgs false
set_option maxHeartbeats 1000000
set_option maxRecDepth 10000
variable {lim : Option Nat}
theorem globs_eq : globs Tryz.prog = [1] := by kernel_rfl
theorem split_on (c : UInt8) : ∀ (n : Nat) (s : List UInt8), s.length ≤ n → splitK [c] 0 (count s [c]) s = splitOn c s
 | _, [], _ => by rw [count_miss (by simp [Lib.index])]; rfl
 | 0, _ :: _, h => by simp at h
 | n + 1, b :: l, h => by
  simp only [List.length_cons] at h
  by_cases hb : b = c
  ·subst hb
   have hix : Lib.index (b :: l) [b] = 0 := by rw [Lib.index]; simp [List.isPrefixOf]
   rw [count_cons_eq, Nat.add_comm 1, splitK, hix, splitOn, if_pos rfl]
   simp only [show ((0 : Int) == -1) = false from rfl, Bool.false_eq_true, if_false, Int.toNat_zero, Nat.zero_add, List.length_singleton, List.drop_succ_cons, List.drop_zero, List.take_zero]
   rw [split_on b n l (by omega)]
  ·have hp : ([c] : List UInt8).isPrefixOf (b :: l) = false := by simp [List.isPrefixOf, Ne.symm hb]
   have hix : Lib.index (b :: l) [c] = if Lib.index l [c] == -1 then -1 else Lib.index l [c] + 1 := by rw [Lib.index, hp]; simp
   have ih := split_on c n l (by omega)
   rw [count_cons_ne b c l hb, splitOn, if_neg hb, ← ih]
   by_cases hm : Lib.index l [c] = -1
   ·rw [count_miss hm]; rfl
   ·have hge := index_ge l [c]
    obtain ⟨j, hj⟩ : ∃ j : Nat, Lib.index l [c] = j := ⟨(Lib.index l [c]).toNat, by omega⟩
    have hix' : Lib.index (b :: l) [c] = ((j + 1 : Nat) : Int) := by rw [hix, if_neg (fun e => hm (beq_iff_eq.1 e)), hj]; omega
    rw [count_hit (by simp) hj, Nat.add_comm 1, splitK, splitK, hix', hj]
    have h1 : ¬ (((j + 1 : Nat) : Int) == -1) = true := fun e => by have := beq_iff_eq.1 e; omega
    have h2 : ¬ ((j : Int) == -1) = true := fun e => by have := beq_iff_eq.1 e; omega
    rw [if_neg h1, if_neg h2]
    have e1 : ((j + 1 : Nat) : Int).toNat = j + 1 := by omega
    have e2 : (j : Int).toNat = j := by omega
    rw [e1, e2]
    simp only [Nat.add_zero, List.take_succ_cons, List.length_singleton, List.drop_succ_cons]
theorem two {xs : Array Value} {a b : V} (h : xs.size = [a, b].length) : ∃ x0 x1, xs = #[x0, x1] := by
 obtain ⟨l⟩ := xs
 match l, h with
 | [x, y], _ => exact ⟨x, y, rfl⟩
theorem toArray_data (s : List UInt8) : (⟨s.toArray⟩ : ByteArray).data.toList = s := rfl
theorem split_real (s : List UInt8) (c : UInt8) (hs : s.length < 4294967281) (H : Heap) : RealCall (EL Tryz.prog tbl lim) Tryz.prog n_strings_Split [.str s, .str [c]] H (.sl 1 ((splitOn c s).map tx)) H := by
 refine ext_real2 lt_strings_Split (by kernel_rfl) (fun _ _ h => by cases h) (fun w xs F ι hF hgl hl hx => ?_)
 obtain ⟨x0, x1, rfl⟩ := two hl
 obtain ⟨_, r0⟩ := hx 0 _ x0 rfl rfl
 obtain ⟨_, r1⟩ := hx 1 _ x1 rfl rfl
 rw [RL_str r0, RL_str r1]
 obtain ⟨m, hm⟩ := hgl.1 1 (by show 1 ∈ globs Tryz.prog; rw [globs_eq]; simp)
 refine (Tryz.strings_Split ⟨s.toArray⟩ ⟨[c].toArray⟩ m w hs hm (by show 1 ≤ [c].toArray.size; simp)).mono ?_
 rintro e w' ⟨rfl, rfl⟩
 have hp := splitB_data ⟨[c].toArray⟩ 0 (count s [c]) ⟨s.toArray⟩
 have hsp : splitK [c] 0 (count s [c]) s = splitOn c s := split_on c s.length s (Nat.le_refl _)
 have hall := splitB_all ⟨[c].toArray⟩ (by show 1 ≤ [c].toArray.size; simp) 0 (count s [c]) ⟨s.toArray⟩ rfl
 have hp' : (splitB ⟨[c].toArray⟩ 0 (count s [c]) ⟨s.toArray⟩).map (·.data.toList) = splitOn c s := hp.trans hsp
 generalize hL : splitB ⟨[c].toArray⟩ 0 (count s [c]) ⟨s.toArray⟩ = L at hp' hall
 have hlen : (splitOn c s).length = count s [c] + 1 := by rw [← hp', List.length_map, hall]
 refine ⟨_, rfl, (Below.refl _ w).alloc (Nat.le_refl _) _, ?_⟩
 have hR := R_texts (w := w.alloc (.cells (L.map Value.string).toArray 9)) (F := F) (ι := ι) (splitOn c s) w.heap.size (fun o h => Nat.lt_irrefl _ (hF _ _ h)) (fun j x hx => by
  rw [World.cell?_alloc_at _ _ _ _ rfl]
  rw [← hp', List.getElem?_map, Option.map_eq_some_iff] at hx
  obtain ⟨y, hy, rfl⟩ := hx
  simp [hy])
 rw [hlen] at hR
 exact hR
theorem join_real (v : V) (rows : List (List V)) (hv : v = .sl 1 rows ∨ v = .own 1 rows) (sep : List UInt8) (ws : List (List UInt8)) (ht : textsOf rows = some ws) (h1 : (Lib.join ws sep).length ≤ 140737488355328) (h2 : ws.length ≤ 140737488355328) (H : Heap) :
  RealCall (EL Tryz.prog tbl lim) Tryz.prog n_strings_Join [v, .str sep] H (.str (Lib.join ws sep)) H := by
 refine ext_real2 lt_strings_Join (by kernel_rfl) (fun _ _ h => by cases h) (fun w xs F ι hF hgl hl hx => ?_)
 obtain ⟨x0, x1, rfl⟩ := two hl
 obtain ⟨_, r0⟩ := hx 0 _ x0 rfl rfl
 obtain ⟨_, r1⟩ := hx 1 _ x1 rfl rfl
 rw [RL_str r1]
 obtain ⟨a, cap, rfl, hc⟩ := RL_texts hv r0 ht
 have hmap : (ws.map fun x => (⟨x.toArray⟩ : ByteArray)).map (·.data.toList) = ws := by
  rw [List.map_map]; exact List.map_id'' (fun x => rfl) ws
 rcases hc with rfl | ⟨b, off, rfl, hb, hcap, hcells⟩
 ·refine (Tryz.strings_Join_none a cap ⟨sep.toArray⟩ w).mono ?_
  rintro e w' ⟨rfl, rfl⟩
  exact ⟨_, rfl, Below.refl _ _, .pr (.str [])⟩
 ·have hj := Tryz.strings_Join b off cap (ws.map fun x => (⟨x.toArray⟩ : ByteArray)) ⟨sep.toArray⟩ w (fun j x hx => by
   rw [List.getElem?_map, Option.map_eq_some_iff] at hx
   obtain ⟨y, hy, rfl⟩ := hx
   exact hcells j y hy) hb (by simpa using h2) (by simpa using hcap) (by rw [hmap]; exact h1)
  rw [hmap, List.length_map] at hj
  refine hj.mono ?_
  rintro e w' ⟨rfl, hbl⟩
  exact ⟨_, rfl, hbl, .pr (.str _)⟩
theorem tabs_eq : tabs Tryz.prog = [(0, spaceTab)] := by
 have h : tabIds Tryz.prog = [0] := by kernel_rfl
 unfold tabs
 rw [h]; rfl
theorem fields_real (s : List UInt8) (hs : s.length < 4294967281) (ha : (s.all fun b => decide (b.toNat < 128)) = true) (H : Heap) : RealCall (EL Tryz.prog tbl lim) Tryz.prog n_strings_Fields [.str s] H (.sl 1 ((Go.Lib.fields s).map tx)) H := by
 refine ext_real2 lt_strings_Fields (by kernel_rfl) (fun _ _ h => by cases h) (fun w xs F ι hF hgl hl hx => ?_)
 obtain ⟨x0, rfl⟩ : ∃ x0, xs = #[x0] := by
  obtain ⟨l⟩ := xs
  match l, hl with
  | [x], _ => exact ⟨x, rfl⟩
 obtain ⟨_, r0⟩ := hx 0 _ x0 rfl rfl
 rw [RL_str r0]
 have htab : ∀ c : Nat, c < 256 → w.cell? ⟨Tryz.lays157_ren.g 0, c, none⟩ = some (.int .u8 (if Lib.isSp (UInt8.ofNat c) then 1 else 0)) := by
  intro c hc
  have := hgl.2 (0, spaceTab) (by show _ ∈ tabs Tryz.prog; rw [tabs_eq]; simp) c (.int .u8 (if Lib.isSp (UInt8.ofNat c) then 1 else 0)) (by
   unfold spaceTab
   rw [List.getElem?_map]
   have h1 := asciiSpaceTab_at c hc
   have h2 : c < asciiSpaceTab.length := by rw [asciiSpaceTab_length]; exact hc
   rw [List.getD_eq_getElem?_getD, List.getElem?_eq_getElem h2] at h1
   rw [List.getElem?_eq_getElem h2]
   simp only [Option.getD_some] at h1
   rw [Option.map_some, h1])
  exact this
 refine (Any.strings_Fields_core Tryz.lays157 (by kernel_rfl) ⟨s.toArray⟩ w hs (fun j b hb => by simpa using List.all_eq_true.1 ha b (List.mem_of_getElem? hb)) htab).mono ?_
 rintro e w' ⟨rfl, rfl⟩
 refine ⟨_, rfl, (Below.refl _ w).alloc (Nat.le_refl _) _, ?_⟩
 exact R_texts (w := w.alloc (.cells ((Lib.fields s).map fun l => Value.string ⟨l.toArray⟩).toArray (Tryz.lays157_ren.t 9))) (F := F) (ι := ι) (Lib.fields s) w.heap.size (fun o h => Nat.lt_irrefl _ (hF _ _ h)) (fun j x hx => by
  rw [World.cell?_alloc_at _ _ _ _ rfl]
  simp [hx])
theorem wstring_real {T : Nat} (hT : T = Go.AM.bT ∨ T = Go.AM.bP) {i : Nat} {bs s : List UInt8} {H : Heap} (hb : H[i]? = some (some [.bld T Go.AM.bE bs])) (h1 : bs.length < 100000000) (h2 : s.length < 100000000) :
  RealCall (EL Tryz.prog tbl lim) Tryz.prog n_pstrings_Builder_WriteString [.bptr i, .str s] H (.tup [.int .i64 s.length, .undef]) (H.set i (some [.bld T Go.AM.bE (bs ++ s)])) := by
 refine wrt_real lt_pstrings_Builder_WriteString (by kernel_rfl) (vs := [.string ⟨s.toArray⟩]) hb (fun _ _ h => by cases h) (fun w F ι xs hl hx => ?_) (bls.writeS hT bs s (by omega))
 match xs, hl with
 | [x], _ =>
  obtain ⟨tl, hR⟩ := hx 0 _ x rfl rfl
  rw [RL_str hR]
theorem bstring_real {T i : Nat} {bs : List UInt8} {H : Heap} (hb : H[i]? = some (some [.bld T Go.AM.bE bs])) :
  RealCall (EL Tryz.prog tbl lim) Tryz.prog n_pstrings_Builder_String [.bptr i] H (.str bs) (H.set i none) := shw_real lt_pstrings_Builder_String (by kernel_rfl) hb (bld.show_ok T bs)
theorem exts_ok : ∀ k e, noExt k = some e → ∀ args H r H', e args H = some (r, H') → RealCall (EL Tryz.prog tbl lim) Tryz.prog k args H r H' := by
 intro k e he args H r H' h
 unfold noExt at he
 split at he
 ·rename_i hk
  subst hk
  cases he
  unfold xSplit at h
  split at h
  ·split at h
   ·rename_i hs; cases h; exact split_real _ _ hs _
   ·cases h
  ·cases h
 ·split at he
  ·rename_i hk
   subst hk
   cases he
   unfold xJoin at h
   split at h
   ·split at h
    ·rename_i ht
     split at h
     ·rename_i hc; cases h; exact join_real _ _ (.inl rfl) _ _ ht hc.1 hc.2 _
     ·cases h
    ·cases h
   ·split at h
    ·rename_i ht
     split at h
     ·rename_i hc; cases h; exact join_real _ _ (.inr rfl) _ _ ht hc.1 hc.2 _
     ·cases h
    ·cases h
   ·cases h
  ·split at he
   ·rename_i hk
    subst hk
    cases he
    unfold xFields at h
    split at h
    ·split at h
     ·rename_i hs; cases h; exact fields_real _ hs.1 hs.2 _
     ·cases h
    ·cases h
   ·split at he
    ·rename_i hk
     subst hk
     cases he
     unfold xWriteString at h
     split at h
     ·split at h
      ·rename_i hb
       split at h
       ·rename_i hh
        obtain ⟨hT, rfl, h1, h2⟩ := hh
        cases h
        exact wstring_real hT hb h1 h2
       ·cases h
      ·cases h
     ·cases h
    ·split at he
     ·rename_i hk
      subst hk
      cases he
      unfold xString at h
      split at h
      ·split at h
       ·rename_i hb
        split at h
        ·rename_i hh
         obtain ⟨hT, rfl⟩ := hh
         cases h
         exact bstring_real hb
        ·cases h
       ·cases h
      ·cases h
     ·cases he
end Go.Proofs.YtfmbdcpdoffdeaaGreatDoor.exts
