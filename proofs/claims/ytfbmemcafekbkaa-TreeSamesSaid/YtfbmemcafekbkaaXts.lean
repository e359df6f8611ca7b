/-
  The functions taken as given: their contracts, over the program.
-/
import Derived.Test.YtfbmemcafekbkaaExt
import Derived.Test.YtfbmemcafekbkaaSpc
import Derived.Test.YtfbmemcafekbkaaCheck
import Derived.Test.YtfbmemcafekbkaaShelf
import Derived.WalkKit
import Derived.ProofKit
import Derived.Laws.RangeAny
namespace Go.Proofs.Ytfbmemcafekbkaa.exts
open Go.AM Go.AM.Spec Go.RowKit Go.Lib Go.Shelf
set_option linter.unusedVariables false
set_option linter.unusedSimpArgs false
set_option maxHeartbeats 1000000
set_option maxRecDepth 10000
variable {lim : Option Nat}


theorem globs_eq : globs Try.prog = [0] := by kernel_rfl

theorem two {xs : Array Value} {a b : V} (h : xs.size = [a, b].length) : ∃ x0 x1, xs = #[x0, x1] := by
  obtain ⟨l⟩ := xs
  match l, h with
  | [x, y], _ => exact ⟨x, y, rfl⟩

theorem toArray_data (s : List UInt8) : (⟨s.toArray⟩ : ByteArray).data.toList = s := rfl

def letterN (x : Nat) : Bool := decide (97 ≤ x) && decide (x ≤ 122)
def digitN (x : Nat) : Bool := decide (48 ≤ x) && decide (x ≤ 57)
def innerN (x : Nat) : Bool := (letterN x || digitN x) || decide (x = 95)

theorem evalE_letter (x : Nat) (H : Heap) : eval tbl (fun _ => none) n_lex_letter [.int .i32 x] H = some (.bool (letterN x), H) := by
  rw [eval_M rfl rfl t_lex_letter rfl]
  unfold letterN
  by_cases h1 : 97 ≤ x
  · by_cases h2 : x ≤ 122
    · have h1' : (97 : Int) ≤ x := by omega
      have h2' : (x : Int) ≤ 122 := by omega
      simp [c_lex_letter, h1, h2, h1', h2']
    · have h1' : (97 : Int) ≤ x := by omega
      have h2' : ¬ (x : Int) ≤ 122 := by omega
      simp [c_lex_letter, h1, h2, h1', h2']
  · have h1' : ¬ (97 : Int) ≤ x := by omega
    simp [c_lex_letter, h1, h1']
theorem evalE_digit (x : Nat) (H : Heap) : eval tbl (fun _ => none) n_lex_digit [.int .i32 x] H = some (.bool (digitN x), H) := by
  rw [eval_M rfl rfl t_lex_digit rfl]
  unfold digitN
  by_cases h1 : 48 ≤ x
  · by_cases h2 : x ≤ 57
    · have h1' : (48 : Int) ≤ x := by omega
      have h2' : (x : Int) ≤ 57 := by omega
      simp [c_lex_digit, h1, h2, h1', h2']
    · have h1' : (48 : Int) ≤ x := by omega
      have h2' : ¬ (x : Int) ≤ 57 := by omega
      simp [c_lex_digit, h1, h2, h1', h2']
  · have h1' : ¬ (48 : Int) ≤ x := by omega
    simp [c_lex_digit, h1, h1']
theorem evalE_inner (x : Nat) (H : Heap) : eval tbl (fun _ => none) n_lex_inner [.int .i32 x] H = some (.bool (innerN x), H) := by
  have h1 := evalE_letter x
  have h2 := evalE_digit x
  rw [eval_M rfl rfl t_lex_inner rfl]
  unfold innerN
  by_cases h3 : x = 95
  · subst h3
    have e1 : letterN 95 = false := by decide
    have e2 : digitN 95 = false := by decide
    rw [e1] at h1
    rw [e2] at h2
    simp only [Int.cast_ofNat_Int] at h1 h2
    simp [c_lex_inner, h1, h2, e1, e2, lt_lex_letter, lt_lex_digit]
  · have h3' : ¬ (x : Int) = 95 := by omega
    cases e1 : letterN x with
    | true =>
      rw [e1] at h1
      simp [c_lex_inner, h1, lt_lex_letter]
    | false =>
      rw [e1] at h1
      cases e2 : digitN x with
      | true =>
        rw [e2] at h2
        simp [c_lex_inner, h1, h2, lt_lex_letter, lt_lex_digit]
      | false =>
        rw [e2] at h2
        simp [c_lex_inner, h1, h2, lt_lex_letter, lt_lex_digit, h3, h3']

/-- What the scanner's tests answer. -/
theorem pred_calls {f : Nat} (hf : f < yBase) {q : Nat → Bool} (h : ∀ x : Nat, eval tbl (fun _ => none) f [.int .i32 x] [] = some (.bool (q x), [])) (w : World) (hg : VarsOK (globs Try.prog) (tabs Try.prog) w) (x : Nat) :
    Calls Try.prog f #[.int .i32 x] w fun e w' => e = .returned (.bool (q x)) ∧ Below w.heap.size w w' := by
  obtain ⟨n, hn⟩ := (eval_iff tbl (fun _ => none) f [.int .i32 x] [] _).1 (h x)
  refine (law_calls fits fitsW (fun _ _ _ h => by cases h) (fun _ => drw_ok) hf hn w hg #[.int .i32 x] rfl ?_).mono ?_
  · intro j v y hv hy
    rcases j with _ | j
    · simp at hv hy; subst hv hy; exact .pr (.int _ _)
    · simp at hv
  · rintro e w' ⟨y, rfl, h1, h2⟩
    rw [h1 _ rfl]
    exact ⟨rfl, h2⟩

/-- The first byte that is none of some. -/
theorem idx_take (q : Nat → Bool) (hq : ∀ x, 128 ≤ x → q x = false) (s : ByteArray) : ∀ (f pos : Nat), s.size ≤ pos + f →
    idxFuncFrom (fun x => !q x) true s f pos = if ((s.data.toList.drop pos).takeWhile fun b => q b.toNat) = s.data.toList.drop pos then -1 else ((pos + ((s.data.toList.drop pos).takeWhile fun b => q b.toNat).length : Nat) : Int) := by
  intro f
  induction f with
  | zero =>
    intro pos h
    have : s.data.toList.drop pos = [] := List.drop_of_length_le (by simpa using h)
    simp [idxFuncFrom, this]
  | succ f ih =>
    intro pos h
    unfold idxFuncFrom
    by_cases hp : pos < s.size
    · have hpl : pos < s.data.toList.length := by simpa using hp
      have hd : s.data.toList.drop pos = s[pos] :: s.data.toList.drop (pos + 1) := by
        rw [List.drop_eq_getElem_cons hpl]; rfl
      rw [if_pos hp, hd]
      by_cases ha : (s[pos]'hp).toNat < 128
      · rw [decode_ascii s pos hp ha]
        cases hb : q (s[pos]'hp).toNat with
        | false => simp [hb]
        | true =>
          have := ih (pos + 1) (by omega)
          simp only [Bool.not_true, Bool.false_eq_true, if_false, hb]
          rw [this]
          simp only [List.takeWhile_cons, hb, if_true, List.cons.injEq, true_and, List.length_cons]
          split
          · rfl
          · congr 1; omega
      · have hh := decode_high s pos hp (by omega)
        have hb := hq _ hh.1
        have hb2 := hq (s[pos]'hp).toNat (by omega)
        simp [hb, hb2]
    · have : s.data.toList.drop pos = [] := List.drop_of_length_le (by simpa using hp)
      simp [hp, this]

theorem run_1_walk (g : Nat) (q : Nat → Bool) (eg : ∀ args w, (callFunc g args).run Try.prog w = .ok (.enter g args) w) (a : Addr) (W : World) (hc : W.cell? a = some (.func (.func g) #[] #[])) (x : Nat)
    (hq : Calls Try.prog g #[.int .i32 x] W fun e w' => e = .returned (.bool (q x)) ∧ Below W.heap.size W w') :
    Calls Try.prog 72 #[.int .i32 x, .pointer (some a)] W fun e w' => e = .returned (.bool (!q x)) ∧ Below W.heap.size W w' := by
  go_enter Try.func72, Try.ntmps72
  go_wp2_with (go_at_fn g; refine hq.mono ?_; rintro e W' ⟨rfl, hbc⟩)
  go_ret
  exact ⟨rfl, hbc⟩

theorem run_walk (g : Nat) (q : Nat → Bool) (eg : ∀ args w, (callFunc g args).run Try.prog w = .ok (.enter g args) w) (s : ByteArray) (w : World) (hq128 : ∀ x, 128 ≤ x → q x = false)
    (hq : ∀ W x, Below w.heap.size w W → Calls Try.prog g #[.int .i32 (x : Nat)] W fun e w' => e = .returned (.bool (q x)) ∧ Below W.heap.size W w') :
    Calls Try.prog 60 #[.string s, .func (.func g) #[] #[]] w fun e w' => e = .returned (.string ⟨(s.data.toList.takeWhile fun b => q b.toNat).toArray⟩) ∧ Below w.heap.size w w' := by
  have e1 : ∀ args w, (callFunc 72 args).run Try.prog w = .ok (.enter 72 args) w := enters_of Try.func72 (by kernel_rfl) rfl
  have hI := idx_take q hq128 s s.size 0 (by omega)
  simp only [List.drop_zero, Nat.zero_add] at hI
  go_enter Try.func60, Try.ntmps60
  have hb1 : Below w.heap.size w (w.alloc (Obj.cells #[Value.func (Fn.func g) #[] #[]] 84)) := (Below.refl _ w).alloc (Nat.le_refl _) _
  have hs1 : (w.alloc (Obj.cells #[Value.func (Fn.func g) #[] #[]] 84)).heap.size = w.heap.size + 1 := by simp
  have hc1 : (w.alloc (Obj.cells #[Value.func (Fn.func g) #[] #[]] 84)).cell? ⟨w.heap.size, 0, none⟩ = some (.func (.func g) #[] #[]) := by
    simp
  have cI := Try.strings_IndexFunc_grows 72 #[Value.pointer (some { block := w.heap.size, off := 0 })] e1 (fun x => !q x) s (w.alloc (Obj.cells #[Value.func (Fn.func g) #[] #[]] 84)) (by
    intro W x hx hb
    exact run_1_walk g q eg ⟨w.heap.size, 0, none⟩ W (by rw [hb.cell (by simp [hs1])]; exact hc1) x (hq W x (hb1.trans (hb.mono (by omega)))))
  simp only [idxFunc, hI] at cI
  clear hq hI
  generalize hL : (s.data.toList.takeWhile fun b => q b.toNat) = L at cI ⊢
  have hLl : L.length ≤ s.size := by
    rw [← hL]
    have := (List.takeWhile_sublist (l := s.data.toList) (fun b => q b.toNat)).length_le
    simpa using this
  by_cases hall : L = s.data.toList
  · rw [if_pos hall] at cI
    go_wp2_with (go_at_fn 71; fail)
    refine cI.mono ?_
    rintro e W' ⟨rfl, hbc⟩
    go_wp2
    go_ret
    refine ⟨?_, hb1.trans (hbc.mono (by omega))⟩
    rw [hall]
    rfl
  · rw [if_neg hall] at cI
    go_wp2_with (go_at_fn 71; fail)
    refine cI.mono ?_
    rintro e W' ⟨rfl, hbc⟩
    have hsl : ¬ ((L.length : Int) < 0) := by omega
    go_wp2
    go_ret
    refine ⟨?_, hb1.trans (hbc.mono (by omega))⟩
    have hpre : L <+: s.data.toList := by rw [← hL]; exact List.takeWhile_prefix _
    have htk := List.prefix_iff_eq_take.1 hpre
    have : s.extract 0 L.length = ⟨L.toArray⟩ := by
      apply ByteArray.ext
      apply Array.toList_inj.1
      rw [ByteArray.data_extract, Array.toList_extract]
      simp only [List.extract_eq_take_drop, List.drop_zero, Nat.sub_zero]
      exact htk.symm
    show Ending.returned (.string (s.extract 0 L.length)) = _
    rw [this]

theorem letter_hi : ∀ x, 128 ≤ x → letterN x = false := by intro x h; unfold letterN; simp; omega
theorem digit_hi : ∀ x, 128 ≤ x → digitN x = false := by intro x h; unfold digitN; simp; omega
theorem inner_hi : ∀ x, 128 ≤ x → innerN x = false := by
  intro x h
  unfold innerN
  rw [letter_hi x h, digit_hi x h]
  simp; omega
theorem letter_b (b : UInt8) : letterN b.toNat = isLetter b := by
  have h1 : decide (97 ≤ b.toNat) = decide (97 ≤ b) := by simp [UInt8.le_iff_toNat_le]
  have h2 : decide (b.toNat ≤ 122) = decide (b ≤ 122) := by simp [UInt8.le_iff_toNat_le]
  unfold letterN isLetter
  rw [h1, h2]
theorem digit_b (b : UInt8) : digitN b.toNat = isDigit b := by
  have h1 : decide (48 ≤ b.toNat) = decide (48 ≤ b) := by simp [UInt8.le_iff_toNat_le]
  have h2 : decide (b.toNat ≤ 57) = decide (b ≤ 57) := by simp [UInt8.le_iff_toNat_le]
  unfold digitN isDigit
  rw [h1, h2]
theorem inner_b (b : UInt8) : innerN b.toNat = isInner b := by
  have h3 : decide (b.toNat = 95) = (b == 95) := by
    rw [Bool.eq_iff_iff]
    simp [← UInt8.toNat_inj]
  unfold innerN isInner
  rw [letter_b, digit_b, h3]

theorem run_real (g : Nat) (hg : g < yBase) (q : Nat → Bool) (qb : UInt8 → Bool) (hb : ∀ b : UInt8, q b.toNat = qb b) (eg : ∀ args w, (callFunc g args).run Try.prog w = .ok (.enter g args) w) (h : ∀ x : Nat, eval tbl (fun _ => none) g [.int .i32 x] [] = some (.bool (q x), [])) (hq128 : ∀ x, 128 ≤ x → q x = false) (s : List UInt8) (H : Heap) :
    RealCall (EL Try.prog tbl lim) Try.prog n_lex_run [.str s, .fn (.func g) [] []] H (.str (s.takeWhile qb)) H := by
  refine ext_real (r := .str (s.takeWhile qb)) (x := .string ⟨(s.takeWhile qb).toArray⟩) lt_lex_run (by kernel_rfl) (fun w F ι => .pr (.str _)) (fun _ _ h => by cases h) (fun w xs hgl hl hx => ?_)
  obtain ⟨x0, x1, rfl⟩ : ∃ x0 x1, xs = #[x0, x1] := by
    obtain ⟨l⟩ := xs
    match l, hl with
    | [a, b], _ => exact ⟨a, b, rfl⟩
  obtain ⟨_, _, _, r0⟩ := hx 0 _ x0 rfl rfl
  obtain ⟨_, _, _, r1⟩ := hx 1 _ x1 rfl rfl
  rw [RL_str r0, RL_fn r1]
  have hw : (s.takeWhile qb) = (s.toArray.toList.takeWhile fun b => q b.toNat) := by simp only [hb]
  rw [hw]
  have hgl' : ∀ W, Below w.heap.size w W → VarsOK (globs Try.prog) (tabs Try.prog) W := by
    intro W hW
    refine ⟨fun i hi => ?_, fun p hp j x hx => ?_⟩
    · obtain ⟨m, hm⟩ := hgl.1 i hi
      refine ⟨m, ?_⟩
      have : i < w.heap.size := World.block_lt_of_cell? _ _ hm
      rw [hW.cell this]; exact hm
    · have hm := hgl.2 p hp j x hx
      have : p.1 < w.heap.size := World.block_lt_of_cell? _ _ hm
      rw [hW.cell this]; exact hm
  exact run_walk g q eg ⟨s.toArray⟩ w hq128 (fun W x hW => pred_calls hg h W (hgl' W hW) x)

theorem exts_ok : ∀ k e, noExt k = some e → ∀ args H r H', e args H = some (r, H') → RealCall (EL Try.prog tbl lim) Try.prog k args H r H' := by
  intro k e he args H r H' h
  unfold noExt at he
  split at he
  · rename_i hk
    subst hk
    cases he
    unfold xContains at h
    split at h
    · rename_i K s c
      cases h
      refine ext_real (r := .bool _) (x := .bool (decide (0 ≤ Go.Lib.indexByte s c))) lt_strings_Contains (by kernel_rfl) (fun w F ι => .pr (.bool _)) (fun _ _ h => by cases h) (fun w xs hgl hl hx => ?_)
      obtain ⟨x0, x1, rfl⟩ : ∃ x0 x1, xs = #[x0, x1] := by
        obtain ⟨l⟩ := xs
        match l, hl with
        | [a, b], _ => exact ⟨a, b, rfl⟩
      obtain ⟨_, _, _, r0⟩ := hx 0 _ x0 rfl rfl
      obtain ⟨_, _, _, r1⟩ := hx 1 _ x1 rfl rfl
      rw [RL_str r0, RL_str r1]
      refine (Try.strings_Contains_one ⟨s.toArray⟩ c w).mono ?_
      rintro e w' ⟨rfl, rfl⟩
      exact ⟨rfl, Below.refl _ _⟩
    · rename_i K s t _
      split at h
      · rename_i hs
        cases h
        refine ext_real (r := .bool _) (x := .bool (Go.Lib.contains s t)) lt_strings_Contains (by kernel_rfl) (fun w F ι => .pr (.bool _)) (fun _ _ h => by cases h) (fun w xs hgl hl hx => ?_)
        obtain ⟨x0, x1, rfl⟩ : ∃ x0 x1, xs = #[x0, x1] := by
          obtain ⟨l⟩ := xs
          match l, hl with
          | [a, b], _ => exact ⟨a, b, rfl⟩
        obtain ⟨_, _, _, r0⟩ := hx 0 _ x0 rfl rfl
        obtain ⟨_, _, _, r1⟩ := hx 1 _ x1 rfl rfl
        rw [RL_str r0, RL_str r1]
        obtain ⟨m, hm⟩ := hgl.1 0 (by show 0 ∈ globs Try.prog; rw [globs_eq]; simp)
        refine (Try.strings_Contains ⟨s.toArray⟩ ⟨t.toArray⟩ m w hs hm).mono ?_
        rintro e w' ⟨rfl, rfl⟩
        exact ⟨rfl, Below.refl _ _⟩
      · cases h
    · cases h
  · split at he
    · rename_i hk
      subst hk
      cases he
      unfold xRun at h
      split at h
      · split at h
        · rename_i hk; subst hk; cases h
          exact run_real _ lt_lex_inner innerN isInner inner_b (enters_of Try.func61 (by kernel_rfl) rfl) (fun x => evalE_inner x []) inner_hi _ _
        · split at h
          · rename_i hk; subst hk; cases h
            exact run_real _ lt_lex_letter letterN isLetter letter_b (enters_of Try.func59 (by kernel_rfl) rfl) (fun x => evalE_letter x []) letter_hi _ _
          · split at h
            · rename_i hk; subst hk; cases h
              exact run_real _ lt_lex_digit digitN isDigit digit_b (enters_of Try.func73 (by kernel_rfl) rfl) (fun x => evalE_digit x []) digit_hi _ _
            · cases h
      · cases h
    · cases he

end Go.Proofs.Ytfbmemcafekbkaa.exts
