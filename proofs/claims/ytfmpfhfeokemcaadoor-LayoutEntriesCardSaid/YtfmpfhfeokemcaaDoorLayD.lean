/-
  Directories: entries' sectors in the document; what stands in a sector.
-/
import Derived.Test.YtfmpfhfeokemcaaDoorLayC
namespace Go.AM.Spec
set_option linter.unusedVariables false
set_option linter.unusedSimpArgs false
set_option maxHeartbeats 4000000
set_option maxRecDepth 20000

theorem refEntry_loop (x : En) (hx : x.name.length ≤ 16) (H : Heap) (z : Option (List V)) (call : CallF) (Q : Option (V × Heap) → Prop) (k : List Item)
    (hexit : ∀ φ', Fr.get φ' 1 = .ptr H.length 0 → Fr.get φ' 2 = .ptr (H.length + 1) 0 → Fr.get φ' 4 = .ptr (H.length + 2) 0 → Q (M call k φ' (H ++ [some x.cells, z, some (secAt 1 x.parent x.target x.name.length x.name x.name.length)]))) :
    ∀ (j i : Nat) (φ : Fr), i + j = x.name.length → Fr.get φ 1 = .ptr H.length 0 → Fr.get φ 2 = .ptr (H.length + 1) 0 → Fr.get φ 4 = .ptr (H.length + 2) 0 → Fr.get φ 5 = iw i →
      Q (M call (.code l_flotsamref07_Entry_0 :: .blk 0 :: k) φ (H ++ [some x.cells, z, some (secAt 1 x.parent x.target x.name.length x.name i)])) := by
  have hc : x.cells = [.bool x.used, iw x.parent, .str x.name, iw x.target] := rfl
  intro j
  induction j with
  | zero =>
    intro i φ hi h1 h2 h4 h5
    obtain rfl : i = x.name.length := by omega
    rw [l_flotsamref07_Entry_0, M_loop]
    simp [b_flotsamref07_Entry_0, h1, h2, h4, h5, hc]
    exact hexit _ (by simp [h1]) (by simp [h2]) (by simp [h4])
  | succ j ih =>
    intro i φ hi h1 h2 h4 h5
    have hlt : i < x.name.length := by omega
    obtain ⟨c, hcc⟩ : ∃ c, c = x.name[i] := ⟨_, rfl⟩
    have hc' : x.name[i]? = some c := by rw [hcc]; exact List.getElem?_eq_getElem hlt
    have hg : ∀ h : i < x.name.length, x.name[i] = c := fun h => hcc.symm
    have e1 : (i : Int) < x.name.length := by omega
    have e2 : IntKind.i64.wrap ((i : Int) + 1) = ((i + 1 : Nat) : Int) := by rw [w64] <;> omega
    obtain ⟨m, hm⟩ : ∃ m, m = 16 + i := ⟨_, rfl⟩
    have e3 : IntKind.i64.wrap (16 + (i : Int)) = (m : Int) := by rw [w64] <;> omega
    have e4 : (m : Int) < 32 := by omega
    have e4' : m < 32 := by omega
    have e5 : m + 1 ≤ 32 := by omega
    have hs := sec_set 1 x.parent x.target x.name.length x.name hlt (by omega)
    rw [← hcc, ← hm] at hs
    have hl := secAt_len 1 x.parent x.target x.name.length x.name (i := i) (by omega) (by omega)
    rw [l_flotsamref07_Entry_0, M_loop, ← l_flotsamref07_Entry_0]
    simp [b_flotsamref07_Entry_0, h1, h2, h4, h5, hc, hc', hlt, hg, e1, e2, e3, e4, e4', e5, hl, hs]
    refine ih (i + 1) _ (by omega) ?_ ?_ ?_ ?_ <;> simp [h1, h2, h4]

theorem refEntry_eq (x : En) (hx : x.name.length ≤ 1000) (H : Heap) : eval tbl noExt n_flotsamref07_Entry [.agg x.cells] H = some (.tup [.agg x.out, .bool x.right], H) := by
  have hR := refRightEntry_eq x hx []
  rw [eval_M rfl rfl t_flotsamref07_Entry rfl]
  unfold En.out
  cases hr : x.right with
  | false =>
    rw [hr] at hR
    simp only [En.cells] at hR ⊢
    simp [c_flotsamref07_Entry, hR, zeroSec, List.replicate]
  | true =>
    rw [hr] at hR
    cases hu : x.used with
    | false =>
      have hs : x.sec = zeroSec := by unfold En.sec; rw [if_neg (by simp [hu])]
      rw [if_pos rfl, hs]
      simp only [En.cells, hu] at hR ⊢
      simp [c_flotsamref07_Entry, hR, zeroSec, List.replicate]
    | true =>
      obtain ⟨r1, r2, r3, r4, r5⟩ := right_used hr hu
      have hs : x.sec = secAt 1 x.parent x.target x.name.length x.name x.name.length := by unfold En.sec; rw [if_pos hu]
      have e1 : IntKind.u8.wrap x.parent = x.parent := by rw [IntKind.wrap_u8]; omega
      have e2 : IntKind.u8.wrap x.target = x.target := by rw [IntKind.wrap_u8]; omega
      have e3 : IntKind.u8.wrap (x.name.length : Int) = x.name.length := by rw [IntKind.wrap_u8]; omega
      have ok := secAt_ok 1 x.parent x.target x.name.length x.name (Nat.le_refl _) (show x.name.length ≤ 16 by omega)
      rw [if_pos rfl, hs]
      have hc : x.cells = [.bool true, iw x.parent, .str x.name, iw x.target] := by unfold En.cells; rw [hu]
      rw [hc] at hR ⊢
      simp [c_flotsamref07_Entry, hR, e1, e2, e3]
      have key := refEntry_loop x (by omega) H (some zeroSec) (eval tbl noExt) (fun r => r = some (.tup [.agg (secAt 1 x.parent x.target x.name.length x.name x.name.length), .bool true], H))
      rw [hc] at key
      refine key _ ?_ x.name.length 0 _ (by omega) ?_ ?_ ?_ ?_
      · intro φ' h1 h2 h4
        simp [r_flotsamref07_Entry_0, h1, h2, h4, zeroSec, List.replicate, ok.len, ok.take, ok.strip, ok.one, ok.under, h32 ok]
      all_goals simp

/-! What stands in a sector. -/
theorem bys_ok {l : List UInt8} (h : l.length = 32) : SecOK (bys l) := ⟨⟨l.map fun c => (c.toNat : Int), by unfold secOf bys; rw [List.map_map]; rfl, by simpa using h⟩⟩

theorem bys_get {l : List UInt8} {i : Nat} {c : UInt8} (h : l[i]? = some c) : (bys l)[i]? = some (u8 c.toNat) := by
  unfold bys
  rw [List.getElem?_map, h]; rfl

theorem chunk_bys : ∀ (n : Nat) (l : List UInt8) (off : Nat), off + n ≤ l.length → chunk 1 (bys l) off n = bytesRows ((l.drop off).take n)
  | 0, l, off, _ => by simp [chunk, bytesRows]
  | n + 1, l, off, h => by
    rw [chunk, chunk_bys n l (off + 1) (by omega)]
    have hlt : off < l.length := by omega
    rw [List.drop_eq_getElem_cons hlt, List.take_succ_cons]
    unfold bytesRows bys
    rw [List.map_cons, ← List.map_drop, ← List.map_take, List.drop_eq_getElem_cons hlt]
    rfl

theorem rowsBytes_of : ∀ s : List UInt8, rowsBytes (bytesRows s) = some s
  | [] => rfl
  | c :: s => by
    have ih := rowsBytes_of s
    have hb : c.toNat < 256 := UInt8.toNat_lt c
    unfold bytesRows at ih ⊢
    rw [List.map_cons]
    unfold rowsBytes
    rw [if_pos (by omega), ih]
    simp

end Go.AM.Spec
