/- Layer 5, plain: the order of the places of paths of which none clash. No walk. -/
import Derived.Test.YtpkeabggkeecaaaNo
import Derived.Test.YtpkeabggkeecaaaPc
import Derived.Sort.Statements
set_option linter.unusedVariables false
set_option linter.unusedSimpArgs false
namespace Go.Proofs.Ytpkeabggkeecaaa
open Go.RowKit Go.Proofs.YtpkeabggkeecaaaW.PrintWords
namespace Nm
open Wd
theorem sameB_eq : ∀ {xs ys : List ByteArray}, sameB xs ys = true → xs = ys
  | [], [], _ => rfl
  | [], _ :: _, h => by cases h
  | _ :: _, [], h => by cases h
  | x :: xs, y :: ys, h => by
    simp only [sameB, beq_iff_eq] at h
    split at h
    · rename_i e
      have ex : x = y := by
        rw [ByteArray.toList_eq, ByteArray.toList_eq] at e
        cases x; cases y; congr; exact Array.toList_inj.1 e
      rw [ex, sameB_eq h]
    · cases h
theorem stB_refl : ∀ xs, stB xs xs = true
  | [] => rfl
  | x :: xs => by simp [stB, stB_refl xs]
/-- No two of the paths clash. -/
def Apart (P : List (List ByteArray)) : Prop := ∀ m n, m < n → n < P.length → ¬ cl (lx P m) (lx P n)
theorem apart_of {P : List (List ByteArray)} (h : (clashFrom P P.length 0).2.2 = 0) : Apart P := by
  rcases clash_says P with ⟨_, h2⟩ | ⟨i, j, h1, _, _, h4, _⟩
  · exact fun m n g1 g2 => h2 m n g1 g2 (by omega)
  · rw [h1] at h
    exact absurd h4 ((bothV_cl _ _).1 h)
theorem apart_ne {P : List (List ByteArray)} (h : Apart P) {i j : Nat} (hi : i < P.length) (hj : j < P.length) (e : lx P i = lx P j) : i = j := by
  rcases Nat.lt_trichotomy i j with g | g | g
  · exact absurd (.inl (by rw [e]; exact stB_refl _)) (h i j g hj)
  · exact g
  · exact absurd (.inl (by rw [e]; exact stB_refl _)) (h j i g hi)
/-- One comes ahead of the other. -/
theorem less_tri {P : List (List ByteArray)} (h : Apart P) {i j : Nat} (hi : i < P.length) (hj : j < P.length) (hne : i ≠ j) : lessL (lx P i) (lx P j) = true ∨ lessL (lx P j) (lx P i) = true := by
  cases e1 : lessL (lx P i) (lx P j) with
  | true => exact .inl rfl
  | false =>
    cases e2 : lessL (lx P j) (lx P i) with
    | true => exact .inr rfl
    | false => exact absurd (apart_ne h hi hj (sameB_eq (lessL_total _ _ (e1.trans e2.symm)))) hne
def before (P : List (List ByteArray)) (i j : Fin P.length) : Bool := lessL (lx P i) (lx P j)
def cfP (P : List (List ByteArray)) (i j : Fin P.length) : Int := cmpL (lx P i) (lx P j)
theorem cfP_lt (P : List (List ByteArray)) (i j : Fin P.length) : decide (cfP P i j < 0) = before P i j := lessL_cmp _ _
theorem swo_before (P : List (List ByteArray)) : Go.Sort.SWO (before P) where
  irrefl x := lessL_irr _
  trans x y z h1 h2 := lessL_trans _ _ _ h1 h2
  ntrans x y z h1 h2 := by
    unfold before at *
    cases e : lessL (lx P x) (lx P z) with
    | false => rfl
    | true =>
      cases e2 : lessL (lx P y) (lx P x) with
      | true => rw [lessL_trans _ _ _ e2 e] at h2; cases h2
      | false =>
        have := sameB_eq (lessL_total _ _ (h1.trans e2.symm))
        rw [this, h2] at e; cases e
theorem before_one {P : List (List ByteArray)} (h : Apart P) (x y : Fin P.length) (h1 : before P x y = false) (h2 : before P y x = false) : x = y := by
  by_cases e : x.val = y.val
  · exact Fin.ext e
  · rcases less_tri h x.isLt y.isLt e with g | g
    · unfold before at h1; rw [g] at h1; cases h1
    · unfold before at h2; rw [g] at h2; cases h2
/-- The places, sorted. -/
def sortF (P : List (List ByteArray)) : List (Fin P.length) := (List.finRange P.length).mergeSort fun x y => !before P y x
def sortI (P : List (List ByteArray)) : List Int := (sortF P).map fun i => ((i.val : Nat) : Int)
theorem sortF_perm (P : List (List ByteArray)) : (sortF P).Perm (List.finRange P.length) := List.mergeSort_perm _ _
theorem sortF_length (P : List (List ByteArray)) : (sortF P).length = P.length := by rw [(sortF_perm P).length_eq, List.length_finRange]
theorem sortI_length (P : List (List ByteArray)) : (sortI P).length = P.length := by rw [sortI, List.length_map, sortF_length]
theorem sortF_sorted (P : List (List ByteArray)) : (sortF P).Pairwise fun x y => (!before P y x) = true := by
  refine List.pairwise_mergeSort (le := fun x y => !before P y x) ?_ ?_ _
  · intro a b c h1 h2
    simp only [Bool.not_eq_true'] at *
    exact (swo_before P).ntrans _ _ _ h2 h1
  · intro a b
    cases e : before P b a with
    | false => simp
    | true =>
      have : before P a b = false := lessL_asymm _ _ e
      simp [this]
theorem sortF_rises {P : List (List ByteArray)} (h : Apart P) : (sortF P).Pairwise fun x y => before P x y = true := by
  have hn : (sortF P).Nodup := (sortF_perm P).nodup_iff.2 (List.nodup_finRange _)
  refine List.Pairwise.imp₂ ?_ (sortF_sorted P) hn
  intro a b h1 h2
  simp only [Bool.not_eq_true'] at h1
  cases e : before P a b with
  | true => rfl
  | false => exact absurd (before_one h a b e h1) h2
end Nm
end Go.Proofs.Ytpkeabggkeecaaa
