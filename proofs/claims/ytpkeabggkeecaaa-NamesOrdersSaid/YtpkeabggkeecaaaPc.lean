/- Layer 5, plain: what the reference's first clash is. No walk. -/
import Derived.Test.YtpkeabggkeecaaaNi
set_option linter.unusedVariables false
set_option linter.unusedSimpArgs false
namespace Go.Proofs.Ytpkeabggkeecaaa
open Go.RowKit Go.Proofs.YtpkeabggkeecaaaW.PrintWords
namespace Nm
open Wd
/-- Do the two clash? -/
def cl (a b : List ByteArray) : Prop := stB a b = true ∨ stB b a = true
theorem bothV_cl (a b : List ByteArray) : bothV a b = 0 ↔ ¬ cl a b := by
  unfold bothV cl
  by_cases h : stB a b = true ∧ stB b a = true
  · rw [if_pos h]; constructor
    · intro e; omega
    · intro e; exact absurd (.inl h.1) e
  · rw [if_neg h]
    by_cases h2 : stB a b = true ∨ stB b a = true
    · rw [if_pos h2]; constructor
      · intro e; omega
      · intro e; exact absurd h2 e
    · rw [if_neg h2]; exact ⟨fun _ => h2, fun _ => rfl⟩
theorem find1_out (p : List ByteArray) : ∀ (Q : List (List ByteArray)) (k : Nat), match find1 p Q k with
    | none => ∀ q ∈ Q, ¬ cl q p
    | some (i, e) => k ≤ i ∧ i < k + Q.length ∧ (∃ q, Q[i - k]? = some q ∧ e = bothV q p ∧ cl q p) ∧ ∀ (i' : Nat) q, k + i' < i → Q[i']? = some q → ¬ cl q p
  | [], k => by simp [find1]
  | q :: r, k => by
    have ih := find1_out p r (k + 1)
    simp only [find1]
    by_cases h : bothV q p = 0
    · rw [if_pos h]
      have hq := (bothV_cl q p).1 h
      cases hf : find1 p r (k + 1) with
      | none =>
        rw [hf] at ih
        intro x hx
        rcases List.mem_cons.1 hx with rfl | hx
        · exact hq
        · exact ih x hx
      | some ie =>
        obtain ⟨i, e⟩ := ie
        rw [hf] at ih
        obtain ⟨h1, h2, ⟨x, h3, h4⟩, h5⟩ := ih
        refine ⟨by omega, by simp only [List.length_cons]; omega, ⟨x, ?_, h4⟩, fun i' y hi hy => ?_⟩
        · rw [show i - k = (i - (k + 1)) + 1 by omega]; simpa using h3
        · cases i' with
          | zero => simp at hy; subst hy; exact hq
          | succ i' => exact h5 i' y (by omega) (by simpa using hy)
    · rw [if_neg h]
      refine ⟨Nat.le_refl _, by simp only [List.length_cons]; omega, ⟨q, by simp, rfl, Classical.not_not.1 fun e => h ((bothV_cl q p).2 e)⟩, fun i' y hi _ => by omega⟩
theorem lx_get {P : List (List ByteArray)} {m : Nat} (h : m < P.length) : P[m]? = some (lx P m) := by
  simp [lx, nth, List.getD_eq_getElem?_getD, List.getElem?_eq_getElem h]
/-- What the first clash from place j on says. -/
def ClashSays (P : List (List ByteArray)) (j0 : Nat) (r : Int × Int × Int) : Prop :=
  (r = (0, 0, 0) ∧ ∀ m n, m < n → n < P.length → j0 ≤ n → ¬ cl (lx P m) (lx P n)) ∨
  (∃ i j : Nat, r = ((i : Int), (j : Int), bothV (lx P i) (lx P j)) ∧ i < j ∧ j < P.length ∧ cl (lx P i) (lx P j) ∧ ∀ m n, m < n → n < P.length → j0 ≤ n → cl (lx P m) (lx P n) → j < n ∨ (j = n ∧ i ≤ m))
theorem clashFrom_says (P : List (List ByteArray)) : ∀ (b j : Nat), P.length ≤ j + b → ClashSays P j (clashFrom P b j)
  | 0, j, h => .inl ⟨rfl, fun m n h1 h2 h3 => by omega⟩
  | b + 1, j, h => by
    by_cases hj : j < P.length
    · have hf := find1_out (lx P j) (P.take j) 0
      have get : ∀ m, m < j → (P.take j)[m]? = some (lx P m) := fun m hm => by
        rw [List.getElem?_take, if_pos hm, lx_get (by omega)]
      simp only [clashFrom, if_pos hj]
      cases e : find1 (lx P j) (P.take j) 0 with
      | none =>
        rw [e] at hf
        have hno : ∀ m, m < j → ¬ cl (lx P m) (lx P j) := fun m hm => hf _ (List.mem_of_getElem? (get m hm))
        rcases clashFrom_says P b (j + 1) (by omega) with ⟨h1, h2⟩ | ⟨i, k, h1, h2, h3, h4, h5⟩
        · refine .inl ⟨h1, fun m n g1 g2 g3 => ?_⟩
          rcases Nat.lt_or_ge j n with g | g
          · exact h2 m n g1 g2 (by omega)
          · obtain rfl : n = j := by omega
            exact hno m g1
        · refine .inr ⟨i, k, h1, h2, h3, h4, fun m n g1 g2 g3 g4 => ?_⟩
          rcases Nat.lt_or_ge j n with g | g
          · exact h5 m n g1 g2 (by omega) g4
          · obtain rfl : n = j := by omega
            exact absurd g4 (hno m g1)
      | some ie =>
        obtain ⟨i, c⟩ := ie
        rw [e] at hf
        obtain ⟨_, h2, ⟨q, h3, h4, h5⟩, h6⟩ := hf
        have hi : i < j := by rw [List.length_take] at h2; omega
        rw [Nat.sub_zero, get i hi] at h3
        injection h3 with h3
        subst h3 h4
        refine .inr ⟨i, j, rfl, hi, hj, h5, fun m n g1 g2 g3 g4 => ?_⟩
        rcases Nat.lt_or_ge j n with g | g
        · exact .inl g
        · obtain rfl : n = j := by omega
          refine .inr ⟨rfl, ?_⟩
          rcases Nat.lt_or_ge m i with gm | gm
          · exact absurd g4 (h6 m _ (by omega) (get m g1))
          · exact gm
    · refine .inl ⟨clashFrom_end P (b + 1) j hj, fun m n h1 h2 h3 => by omega⟩
theorem clash_says (P : List (List ByteArray)) : ClashSays P 0 (clashFrom P P.length 0) := clashFrom_says P P.length 0 (by omega)
end Nm
end Go.Proofs.Ytpkeabggkeecaaa
