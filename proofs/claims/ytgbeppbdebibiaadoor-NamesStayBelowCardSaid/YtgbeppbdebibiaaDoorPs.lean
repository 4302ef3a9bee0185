/- Layer 5, plain: Split undoes Join and Join undoes Split. No walk. -/
import Derived.Test.YtgbeppbdebibiaaDoorNg
import Derived.Test.YtgbeppbdebibiaaDoorNs
set_option linter.unusedVariables false
set_option linter.unusedSimpArgs false
namespace Go.Proofs.YtgbeppbdebibiaaDoor
open Go.RowKit Go.Proofs.YtgbeppbdebibiaaDoorW.PrintWords
namespace Nm
open Wd
theorem brdB_false (s : ByteArray) : ∀ (b i : Nat), s.size ≤ i + b → brdB s b i = false → ∀ k, i ≤ k → k < s.size → barB (byt s k) = false
  | 0, i, hb, _, k, h1, h2 => by omega
  | b + 1, i, hb, h, k, h1, h2 => by
    simp only [brdB, if_pos (show i < s.size by omega), Bool.or_eq_false_iff] at h
    rcases Nat.lt_or_ge i k with hk | hk
    · exact brdB_false s b (i + 1) (by omega) h.2 k (by omega) h2
    · obtain rfl : i = k := by omega
      exact h.1
theorem comp_bytes {x : ByteArray} (h : comp x = 0) (k : Nat) (hk : k < x.size) : barB (byt x k) = false := by
  refine brdB_false x x.size 0 (by omega) ?_ k (by omega) hk
  rw [← brd_eq x x.size 0 x.size (by omega) (by omega)]
  unfold comp at h
  repeat' split at h
  all_goals first | omega | (cases e : brd x x.size 0 <;> simp_all)
theorem mem_byt {x : ByteArray} {c : UInt8} (h : c ∈ x.data.toList) : ∃ k, k < x.size ∧ byt x k = (c.toNat : Int) := by
  obtain ⟨k, hk, e⟩ := List.mem_iff_getElem.1 h
  have hs := Lib.size_eq x
  refine ⟨k, by omega, ?_⟩
  have hg := Lib.data_getElem? x k (by omega)
  rw [List.getElem?_eq_getElem hk, e] at hg
  injection hg with hg
  rw [← byt_eq x k (by omega), ← hg]
theorem comp_noslash {x : ByteArray} (h : comp x = 0) : (47 : UInt8) ∉ x.data.toList := fun hm => by
  obtain ⟨k, hk, e⟩ := mem_byt hm
  have := comp_bytes h k hk
  rw [e] at this
  revert this
  decide
/-- A text cut at its slashes. -/
def cutL : List UInt8 → List (List UInt8)
  | [] => [[]]
  | c :: r => if c = 47 then [] :: cutL r else match cutL r with | [] => [[c]] | x :: xs => (c :: x) :: xs
def pref (p : List UInt8) : List (List UInt8) → List (List UInt8)
  | [] => [p]
  | x :: xs => (p ++ x) :: xs
theorem cutL_ne (l : List UInt8) : cutL l ≠ [] := by
  cases l with
  | nil => simp [cutL]
  | cons c r =>
    simp only [cutL]
    split
    · simp
    · split <;> simp
theorem cutL_other {c : UInt8} (h : c ≠ 47) (r : List UInt8) : cutL (c :: r) = pref [c] (cutL r) := by
  simp only [cutL, if_neg h]
  cases cutL r <;> rfl
theorem pref_pref (p q : List UInt8) (l : List (List UInt8)) : pref p (pref q l) = pref (p ++ q) l := by
  cases l <;> simp [pref]
theorem pref_nil {l : List (List UInt8)} (h : l ≠ []) : pref [] l = l := by
  cases l with
  | nil => exact absurd rfl h
  | cons x xs => rfl
theorem cutFrom_cutL (s : ByteArray) : ∀ (b f i : Nat), f ≤ i → i ≤ s.size → s.size + 1 ≤ i + b →
    (cutFrom s b f i).map (·.data.toList) = pref ((s.data.toList.drop f).take (i - f)) (cutL (s.data.toList.drop i))
  | 0, f, i, hf, hi, hb => by omega
  | b + 1, f, i, hf, hi, hb => by
    have hsz : s.size = s.data.toList.length := Lib.size_eq s
    simp only [cutFrom]
    rw [if_neg (by omega)]
    by_cases he : i = s.size
    · rw [if_pos he, cutFrom_end _ _ _ _ (by omega), List.drop_of_length_le (i := i) (by omega)]
      simp [cutL, pref, Lib.extract_data]
    · rw [if_neg he]
      have hlt : i < s.size := by omega
      have hg := Lib.data_getElem? s i hlt
      have hbt : byt s i = ((s[i]'hlt).toNat : Int) := (byt_eq s i hlt).symm
      have hd : s.data.toList.drop i = s[i]'hlt :: s.data.toList.drop (i + 1) := by
        rw [List.drop_eq_getElem_cons (by omega)]
        rw [List.getElem?_eq_getElem (by omega)] at hg
        injection hg with hg
        rw [hg]
      by_cases h47 : byt s i = 47
      · have e47 : s[i]'hlt = 47 := UInt8.toNat_inj.1 (by have : (47 : UInt8).toNat = 47 := rfl; omega)
        rw [if_pos h47, List.map_cons, cutFrom_cutL s b (i + 1) (i + 1) (Nat.le_refl _) (by omega) (by omega), hd, e47]
        simp only [Nat.sub_self, List.take_zero, cutL, if_true]
        rw [pref_nil (cutL_ne _)]
        simp [pref, Lib.extract_data]
      · have e47 : s[i]'hlt ≠ 47 := fun e => h47 (by rw [hbt, e]; rfl)
        rw [if_neg h47, cutFrom_cutL s b f (i + 1) (by omega) (by omega) (by omega), hd, cutL_other e47, pref_pref]
        congr 1
        rw [show i + 1 - f = (i - f) + 1 by omega, List.take_add_one]
        congr 1
        rw [List.getElem?_drop, show f + (i - f) = i by omega, hg]
        rfl
theorem splitS_cutL (s : ByteArray) : (splitS s).map (·.data.toList) = cutL s.data.toList := by
  have := cutFrom_cutL s (s.size + 1) 0 0 (Nat.le_refl _) (by omega) (by omega)
  rw [splitS, this]
  simp only [Nat.sub_self, List.take_zero, List.drop_zero]
  exact pref_nil (cutL_ne _)
theorem join_cutL : ∀ l : List UInt8, Lib.join (cutL l) slash = l
  | [] => by simp [cutL, Lib.join, List.intercalate]
  | c :: r => by
    have ih := join_cutL r
    by_cases h : c = 47
    · subst h
      simp only [cutL, if_true]
      have hn := cutL_ne r
      revert ih hn
      cases cutL r with
      | nil => intro _ h; exact absurd rfl h
      | cons x xs => intro ih _; rw [← ih]; simp [Lib.join, List.intercalate, slash]
    · rw [cutL_other h]
      have hn := cutL_ne r
      revert ih hn
      cases cutL r with
      | nil => intro _ h; exact absurd rfl h
      | cons x xs => intro ih _; rw [← ih]; cases xs <;> simp [Lib.join, List.intercalate, pref]
theorem cutL_none : ∀ l : List UInt8, 47 ∉ l → cutL l = [l]
  | [], _ => rfl
  | c :: r, h => by
    simp only [List.mem_cons, not_or] at h
    rw [cutL_other (fun e => h.1 e.symm), cutL_none r h.2]
    rfl
theorem cutL_append : ∀ (l r : List UInt8), 47 ∉ l → cutL (l ++ 47 :: r) = l :: cutL r
  | [], r, _ => by simp [cutL]
  | c :: l, r, h => by
    simp only [List.mem_cons, not_or] at h
    rw [List.cons_append, cutL_other (fun e => h.1 e.symm), cutL_append l r h.2]
    rfl
theorem cutL_join : ∀ (xs : List (List UInt8)), xs ≠ [] → (∀ x ∈ xs, 47 ∉ x) → cutL (Lib.join xs slash) = xs
  | [], h, _ => absurd rfl h
  | [x], _, h => by rw [Lib.join_one]; exact cutL_none x (h x (by simp))
  | x :: y :: r, _, h => by
    have e : Lib.join (x :: y :: r) slash = x ++ 47 :: Lib.join (y :: r) slash := by
      simp [Lib.join, List.intercalate, slash]
    rw [e, cutL_append x _ (h x (by simp)), cutL_join (y :: r) (by simp) (fun z hz => h z (by simp [List.mem_cons.1 hz]))]
theorem map_data_inj : ∀ {xs ys : List ByteArray}, xs.map (·.data.toList) = ys.map (·.data.toList) → xs = ys
  | [], [], _ => rfl
  | [], _ :: _, h => by simp at h
  | _ :: _, [], h => by simp at h
  | x :: xs, y :: ys, h => by
    simp only [List.map_cons, List.cons.injEq] at h
    rw [ext_list h.1, map_data_inj h.2]
theorem splitS_join {xs : List ByteArray} (h : path xs = 0) : splitS (joinS xs) = xs := by
  obtain ⟨h1, _, h3⟩ := path_zero h
  apply map_data_inj
  rw [splitS_cutL]
  show cutL (Lib.join (xs.map (·.data.toList)) slash) = _
  refine cutL_join _ ?_ ?_
  · intro e
    have := congrArg List.length e
    simp at this
    subst this
    simp at h1
  · intro x hx
    obtain ⟨y, hy, rfl⟩ := List.mem_map.1 hx
    exact comp_noslash (h3 y hy)
theorem joinS_split (s : ByteArray) : joinS (splitS s) = s := by
  apply ext_list
  show Lib.join ((splitS s).map (·.data.toList)) slash = _
  rw [splitS_cutL, join_cutL]
theorem joinS_size {xs : List ByteArray} (h : path xs = 0) : (joinS xs).size ≤ 4352 := by
  have := joinS_len h
  rw [Lib.size_eq]
  exact this
end Nm
end Go.Proofs.YtgbeppbdebibiaaDoor
