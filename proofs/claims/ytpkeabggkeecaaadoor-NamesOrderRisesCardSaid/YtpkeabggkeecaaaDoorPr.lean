/- Layer 5, plain: what Order answers: an order just if all are paths, few enough, of which none clash; the places rise. No walk. -/
import Derived.Test.YtpkeabggkeecaaaDoorOw
set_option linter.unusedVariables false
set_option linter.unusedSimpArgs false
namespace Go.Proofs.YtpkeabggkeecaaaDoor
open Go.RowKit Go.Proofs.YtpkeabggkeecaaaDoorW.PrintWords
namespace Nm
open Wd
/-- The first k of the paths are paths, all are few enough, and none clash. -/
def goodB (P : List (List ByteArray)) (k : Nat) : Bool := (decide (clashE P = 0) && decide (P.length ≤ 4096)) && (P.take k).all fun x => decide (path x = 0)
theorem good_zero {P : List (List ByteArray)} {b : Bool} (h : (decide (clashE P = 0) && decide (P.length ≤ 4096)) = b) : goodB P 0 = b := by unfold goodB; simp [h]
theorem good_succ {P : List (List ByteArray)} {k : Nat} (hk : k < P.length) : goodB P (k + 1) = (goodB P k && decide (path (lx P k) = 0)) := by
  have e : P.take (k + 1) = P.take k ++ [lx P k] := nth_take [] P k hk
  unfold goodB
  rw [e, List.all_append]
  simp [Bool.and_assoc]
theorem firstPath_zero : ∀ P : List (List ByteArray), firstPath P = 0 ↔ ∀ x ∈ P, path x = 0
  | [] => by simp [firstPath]
  | x :: r => by
    unfold firstPath
    by_cases h : path x = 0
    · rw [if_pos h, firstPath_zero r]; simp [h]
    · rw [if_neg h]; simp [h]
theorem good_end (P : List (List ByteArray)) : goodB P P.length = decide (ordE P = 0) := by
  rw [Bool.eq_iff_iff, decide_eq_true_iff]
  unfold goodB ordE
  rw [List.take_length]
  simp only [Bool.and_eq_true, decide_eq_true_eq, List.all_eq_true]
  rw [← firstPath_zero]
  by_cases h1 : 4096 < P.length
  · rw [if_pos h1]; constructor
    · rintro ⟨⟨_, h⟩, _⟩; omega
    · intro h; omega
  · rw [if_neg h1]
    by_cases h2 : firstPath P = 0
    · rw [if_pos h2]; constructor
      · rintro ⟨⟨h, _⟩, _⟩; exact h
      · intro h; exact ⟨⟨h, by omega⟩, h2⟩
    · rw [if_neg h2]; constructor
      · rintro ⟨_, h⟩; exact absurd h h2
      · intro h; exact absurd h h2
/-- Place k of the sorted places, as a number. -/
def plc (P : List (List ByteArray)) (k : Nat) : Nat := (((sortF P)[k]?).map Fin.val).getD 0
theorem plc_lt {P : List (List ByteArray)} {k : Nat} (hk : k < P.length) : plc P k < P.length := by
  unfold plc
  rw [List.getElem?_eq_getElem (by rw [sortF_length]; exact hk)]
  exact Fin.isLt _
theorem sortI_get {P : List (List ByteArray)} {k : Nat} (hk : k < P.length) : rd (sortI P) (k : Int) = (plc P k : Int) := by
  have h : k < (sortF P).length := by rw [sortF_length]; exact hk
  unfold rd plc sortI
  rw [List.getElem?_eq_getElem h]
  simp [h]
theorem plc_rises {P : List (List ByteArray)} (h : Apart P) {k : Nat} (hk : k + 1 < P.length) : lessL (lx P (plc P k)) (lx P (plc P (k + 1))) = true := by
  have h1 : k < (sortF P).length := by rw [sortF_length]; omega
  have h2 : k + 1 < (sortF P).length := by rw [sortF_length]; omega
  have := List.pairwise_iff_getElem.1 (sortF_rises h) k (k + 1) h1 h2 (by omega)
  unfold plc
  rw [List.getElem?_eq_getElem h1, List.getElem?_eq_getElem h2]
  exact this
theorem apart_ord {P : List (List ByteArray)} (h : ordE P = 0) : Apart P := by
  have := good_end P
  rw [h] at this
  unfold goodB at this
  simp only [decide_true, Bool.and_eq_true, decide_eq_true_eq] at this
  exact apart_of this.1.1
end Nm
end Go.Proofs.YtpkeabggkeecaaaDoor
