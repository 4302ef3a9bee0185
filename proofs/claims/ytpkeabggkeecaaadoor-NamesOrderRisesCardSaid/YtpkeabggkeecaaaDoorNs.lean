/- Layer 5 (names): Split of the package and of its reference, by one plain function. Conditions: the text shorter than 4294967281 bytes (strings.Split's contract), the library's MaxLen a number. -/
import Derived.Test.YtpkeabggkeecaaaDoorNf
import Derived.Test.YtpkeabggkeecaaaDoorShelf
import Derived.Lib.SplitLaws
import Derived.Lib.SmallJoins
set_option linter.unusedVariables false
set_option linter.unusedSimpArgs false
namespace Go.Proofs.YtpkeabggkeecaaaDoor
open Go.RowKit Go.Proofs.YtpkeabggkeecaaaDoorW.PrintWords
namespace Nm
open Wd
/-- The pieces of s[from:], as the reference cuts them: it looks at place i. -/
def cutFrom (s : ByteArray) : Nat → Nat → Nat → List ByteArray
  | 0, _, _ => []
  | b + 1, f, i => if s.size < i then [] else if i = s.size then s.extract f i :: cutFrom s b (i + 1) (i + 1) else if byt s i = 47 then s.extract f i :: cutFrom s b (i + 1) (i + 1) else cutFrom s b f (i + 1)
def splitS (s : ByteArray) : List ByteArray := cutFrom s (s.size + 1) 0 0
theorem cutFrom_end (s : ByteArray) (b f i : Nat) (h : s.size < i) : cutFrom s b f i = [] := by
  cases b with
  | zero => rfl
  | succ b => simp only [cutFrom, if_pos h]
def sl : ByteArray := ⟨#[47]⟩
theorem occ1 (l : List UInt8) (j : Nat) : Lib.occAt l [47] j = true ↔ l[j]? = some 47 := by
  unfold Lib.occAt
  rw [List.isPrefixOf_iff_prefix]
  have e : l[j]? = (l.drop j)[0]? := by simp
  rw [e]
  cases l.drop j with
  | nil => simp
  | cons a t => simp [List.cons_prefix_cons, eq_comm]
theorem indexB_none {s : ByteArray} (h : ∀ j : Nat, s.data.toList[j]? ≠ some 47) : Lib.indexB s sl = -1 :=
  Lib.index_none fun j _ => by
    cases e : Lib.occAt s.data.toList sl.data.toList j with
    | false => rfl
    | true => exact absurd ((occ1 _ _).1 e) (h j)
theorem indexB_at {s : ByteArray} {i : Nat} (hi : s.data.toList[i]? = some 47) (h : ∀ j : Nat, j < i → s.data.toList[j]? ≠ some 47) : Lib.indexB s sl = i :=
  Lib.index_first (by have := (List.getElem?_eq_some_iff.1 hi).1; omega) ((occ1 _ _).2 hi) fun j hj => by
    cases e : Lib.occAt s.data.toList sl.data.toList j with
    | false => rfl
    | true => exact absurd ((occ1 _ _).1 e) (h j hj)
theorem ext_list {a b : ByteArray} (h : a.data.toList = b.data.toList) : a = b := by
  cases a; cases b; congr; exact Array.toList_inj.1 h
theorem extract_tail (s : ByteArray) (f k : Nat) (h : f + k ≤ s.size) : (s.extract f s.size).extract k (s.extract f s.size).size = s.extract (f + k) s.size := by
  apply ext_list
  rw [Lib.extract_to_end, Lib.extract_to_end, Lib.extract_to_end, List.drop_drop]
theorem extract_front (s : ByteArray) (f k : Nat) (h : f + k ≤ s.size) : (s.extract f s.size).extract 0 k = s.extract f (f + k) := by
  apply ext_list
  rw [Lib.extract_data, Lib.extract_to_end, Lib.extract_data]
  simp
theorem split_from (s : ByteArray) : ∀ (b f i : Nat), f ≤ i → i ≤ s.size → s.size + 1 ≤ i + b → (∀ j : Nat, f ≤ j → j < i → s.data.toList[j]? ≠ some 47) →
    Lib.splitB sl 0 (Lib.countB (s.extract f s.size) sl) (s.extract f s.size) = cutFrom s b f i := by
  have hsz : s.size = s.data.toList.length := Lib.size_eq s
  intro b
  induction b with
  | zero => intro f i _ hi hb; omega
  | succ b ih =>
    intro f i hf hi hb hn
    have hd : ∀ j, (s.extract f s.size).data.toList[j]? = s.data.toList[f + j]? := fun j => by rw [Lib.extract_to_end, List.getElem?_drop]
    simp only [cutFrom]
    rw [if_neg (by omega)]
    by_cases he : i = s.size
    · rw [if_pos he, cutFrom_end _ _ _ _ (by omega)]
      have hno : Lib.indexB (s.extract f s.size) sl = -1 := indexB_none fun j => by
        rw [hd]
        by_cases hj : f + j < i
        · exact hn _ (by omega) hj
        · rw [List.getElem?_eq_none (by omega)]; simp
      rw [Lib.countB_miss _ _ hno, Lib.splitB_zero, he]
    · rw [if_neg he]
      have hlt : i < s.size := by omega
      have hb : byt s i = ((s[i]'hlt).toNat : Int) := (byt_eq s i hlt).symm
      have hg := Lib.data_getElem? s i hlt
      by_cases h47 : byt s i = 47
      · rw [if_pos h47]
        have hat : s.data.toList[i]? = some 47 := by
          rw [hg]
          congr 1
          rw [h47] at hb
          exact UInt8.toNat_inj.1 (by have : (47 : UInt8).toNat = 47 := rfl; omega)
        have hix : Lib.indexB (s.extract f s.size) sl = ((i - f : Nat) : Int) := indexB_at (by rw [hd, show f + (i - f) = i by omega]; exact hat) (fun j hj => by rw [hd]; exact hn _ (by omega) (by omega))
        rw [Lib.countB_hit _ _ (i - f) (by decide) hix, Nat.add_comm 1, Lib.splitB_hit _ _ _ _ (i - f) hix]
        have e1 : sl.size = 1 := rfl
        have e2 : f + (i - f + 1) = i + 1 := by omega
        have e3 : f + (i - f) = i := by omega
        rw [e1, extract_tail s f (i - f + 1) (by omega), Nat.add_zero, extract_front s f (i - f) (by omega), e2, e3]
        rw [ih (i + 1) (i + 1) (Nat.le_refl _) (by omega) (by omega) (fun j h1 h2 => by omega)]
      · rw [if_neg h47]
        refine ih f (i + 1) (by omega) (by omega) (by omega) fun j h1 h2 => ?_
        by_cases hj : j < i
        · exact hn j h1 hj
        · obtain rfl : j = i := by omega
          rw [hg]
          intro e
          injection e with e
          apply h47
          rw [hb, e]
          rfl
/-- What the library's Split answers at a slash. -/
theorem split_lib (s : ByteArray) : Lib.splitB sl 0 (Lib.countB s sl) s = splitS s := by
  have h := split_from s (s.size + 1) 0 0 (Nat.le_refl _) (by omega) (by omega) (fun j h1 h2 => by omega)
  have e : s.extract 0 s.size = s := ext_list (by rw [Lib.extract_to_end]; rfl)
  rw [e] at h
  exact h
theorem split_len (s : ByteArray) : (splitS s).length = Lib.countB s sl + 1 := by
  rw [← split_lib]
  exact Lib.splitB_all sl (by decide) 0 _ s rfl
/-- The names that Split answers, and its error. -/
def splitL (s : ByteArray) : List ByteArray := if path (splitS s) = 0 then splitS s else []
/-- What a Split's call comes to. -/
def SplitR (s : ByteArray) (w : World) (e : Ending) (w' : World) : Prop :=
  ∃ A c, e = .returned (.tuple #[.slice A (splitL s).length c, .int .i64 (path (splitS s))]) ∧ (splitL s).length ≤ c ∧ Kd.string.C w' A (splitL s).length (splitL s) ∧ Below w.heap.size w w'
theorem laid_strs (w : World) (xs : List ByteArray) (h : xs.length ≤ 9223372036854775807) : Kd.string.C (w.alloc (.cells (xs.map Value.string).toArray 9)) (some ⟨w.heap.size, 0, none⟩) xs.length xs := by
  refine ⟨rfl, h, fun _ => ⟨_, rfl, fun j p hj => ⟨[.string p], rfl, rfl, fun i u hu => ?_⟩⟩⟩
  obtain ⟨hj', hp⟩ := List.getElem?_eq_some_iff.1 hj
  cases i with
  | succ i => simp at hu
  | zero =>
    obtain rfl : Value.string p = u := by simpa using hu
    rw [Go.WideShapes.add_plain]
    have e : (0 : Nat) + (j * Kd.string.sz + 0) = j := by show 0 + (j * 1 + 0) = j; omega
    rw [e, World.cell?_alloc_mark]
    simp [hj', hp]
/-- The library's MaxLen is a number. -/
def MaxOk (w : World) : Prop := ∃ m, w.cell? ⟨0, 0, none⟩ = some (.int .i64 m)
theorem MaxOk.below {w w' : World} (h : MaxOk w) (hb : Below w.heap.size w w') : MaxOk w' := by
  obtain ⟨m, h⟩ := h
  exact ⟨m, cell_stay hb h⟩
theorem libSplit_any (s : ByteArray) (w : World) (hs : s.size < 4294967281) (hm : MaxOk w) :
    Calls Tryd.prog 22 #[.string s, .string ⟨#[47]⟩] w fun e w' => ∃ A c, e = .returned (.slice A (splitS s).length c) ∧ (splitS s).length ≤ c ∧ Kd.string.C w' A (splitS s).length (splitS s) ∧ Below w.heap.size w w' := by
  obtain ⟨m, hm⟩ := hm
  have hl := split_len s
  have hc : Lib.countB s sl ≤ s.size := Lib.countB_le sl (by decide) _ s (Nat.le_refl _)
  refine (Tryd.strings_Split s sl m w hs hm (by decide)).mono ?_
  rintro e w' ⟨rfl, rfl⟩
  rw [split_lib, ← hl]
  exact ⟨_, _, rfl, Nat.le_refl _, laid_strs w _ (by omega), below_alloc (Below.refl _ _) _⟩
set_option maxRecDepth 100000 in
theorem split_any (s : ByteArray) (w : World) (hs : s.size < 4294967281) (hm : MaxOk w) : Calls Tryd.prog 12 #[.string s] w (SplitR s w) := by
  have HL := Lib.hid (libSplit_any s w hs hm)
  clear hm
  by_cases h0 : path (splitS s) = 0
  · have hL : splitL s = splitS s := if_pos h0
    have HG : Hid (∀ e w', (∃ A c, e = .returned (.tuple #[.slice A (splitS s).length c, .int .i64 0]) ∧ (splitS s).length ≤ c ∧ Kd.string.C w' A (splitS s).length (splitS s) ∧ Below w.heap.size w w') → SplitR s w e w') := Lib.hid fun e w' h => by
      unfold SplitR; rw [hL, h0]; exact h
    have HP : Hid (∀ A c w1, Kd.string.C w1 A (splitS s).length (splitS s) → Calls Tryd.prog 20 #[.slice A (splitS s).length c] w1 fun e w' => e = .returned (.int .i64 0) ∧ Below w1.heap.size w1 w') := Lib.hid fun A c w1 h => by rw [← h0]; exact path_any A c _ w1 h
    clear h0 hL
    generalize splitS s = xs at *
    go_enter Tryd.func12, Tryd.ntmps12
    go_wp2_with fail
    go_at_call 22
    refine (HL.out).mono ?_
    rintro e w1 ⟨A, c, rfl, hc, hr, hb1⟩
    have HR := Aside0.mk hr
    clear hr
    go_wp2_with fail
    go_at_call 20
    refine (HP.out _ _ _ HR.out).mono ?_
    rintro e w2 ⟨rfl, hb2⟩
    go_wp2
    go_ret2
    exact HG.out _ _ ⟨A, c, rfl, hc, Kd.C_below HR.out hb2, below_step hb1 hb2⟩
  · have hL : splitL s = [] := if_neg h0
    have hn : (path (splitS s) != 0) = true := by simp [h0]
    have HG : Hid (∀ e w', (e = .returned (.tuple #[.slice none 0 0, .int .i64 (path (splitS s))]) ∧ Below w.heap.size w w') → SplitR s w e w') := Lib.hid fun e w' h => by
      unfold SplitR; rw [hL]; exact ⟨none, 0, h.1, Nat.le_refl _, Kd.C_nil _ _, h.2⟩
    have HP : Hid (∀ A c w1, Kd.string.C w1 A (splitS s).length (splitS s) → Calls Tryd.prog 20 #[.slice A (splitS s).length c] w1 fun e w' => e = .returned (.int .i64 (path (splitS s))) ∧ Below w1.heap.size w1 w') := Lib.hid fun A c w1 h => path_any A c _ w1 h
    clear h0 hL
    generalize path (splitS s) = n at *
    generalize splitS s = xs at *
    go_enter Tryd.func12, Tryd.ntmps12
    go_wp2_with fail
    go_at_call 22
    refine (HL.out).mono ?_
    rintro e w1 ⟨A, c, rfl, hc, hr, hb1⟩
    have HR := Aside0.mk hr
    clear hr
    go_wp2_with fail
    go_at_call 20
    refine (HP.out _ _ _ HR.out).mono ?_
    rintro e w2 ⟨rfl, hb2⟩
    go_wp2
    go_ret2
    exact HG.out _ _ ⟨rfl, below_step hb1 hb2⟩
theorem cutFrom_short (s : ByteArray) : ∀ (b f i : Nat), ∀ x ∈ cutFrom s b f i, x.size ≤ s.size
  | 0, _, _, x, h => by cases h
  | b + 1, f, i, x, h => by
    have ex : ∀ f i, (s.extract f i).size ≤ s.size := fun f i => by
      rw [Lib.size_eq, Lib.extract_data, Lib.size_eq s, List.length_take, List.length_drop]; omega
    simp only [cutFrom] at h
    split at h
    · cases h
    · split at h
      · rcases List.mem_cons.1 h with rfl | h
        · exact ex _ _
        · exact cutFrom_short s b _ _ x h
      · split at h
        · rcases List.mem_cons.1 h with rfl | h
          · exact ex _ _
          · exact cutFrom_short s b _ _ x h
        · exact cutFrom_short s b _ _ x h
theorem cut_add (s : ByteArray) (k a : Nat) (D xs : List ByteArray) (hk : k ≤ s.size) (h : D ++ cutFrom s (s.size + 1 - k) a k = xs) (hc : k = s.size ∨ byt s k = 47) :
    (D ++ [s.extract a k]) ++ cutFrom s (s.size + 1 - (k + 1)) (k + 1) (k + 1) = xs := by
  rw [← h, show s.size + 1 - k = (s.size + 1 - (k + 1)) + 1 by omega, cutFrom, if_neg (by omega)]
  split
  · simp
  · rw [if_pos (hc.resolve_left ‹_›)]; simp
theorem cut_pass (s : ByteArray) (k a : Nat) (D xs : List ByteArray) (hk : k < s.size) (h : D ++ cutFrom s (s.size + 1 - k) a k = xs) (hc : ¬ byt s k = 47) :
    D ++ cutFrom s (s.size + 1 - (k + 1)) a (k + 1) = xs := by
  rw [← h]
  rw [show s.size + 1 - k = (s.size + 1 - (k + 1)) + 1 by omega, cutFrom, if_neg (by omega), if_neg (by omega), if_neg hc]
end Nm
end Go.Proofs.YtpkeabggkeecaaaDoor
