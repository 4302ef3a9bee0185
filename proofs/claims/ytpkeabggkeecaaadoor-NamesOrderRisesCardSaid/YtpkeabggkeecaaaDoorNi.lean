/- Layer 5 (names), walks: starts, both and Clash of the reference. Conditions: the lists are read at their addresses, lengths within the form's reach. -/
import Derived.Test.YtpkeabggkeecaaaDoorNh
set_option linter.unusedVariables false
set_option linter.unusedSimpArgs false
namespace Go.Proofs.YtpkeabggkeecaaaDoor
open Go.RowKit Go.Proofs.YtpkeabggkeecaaaDoorW.PrintWords
namespace Nm
open Wd
/-- Does the second list begin with all of the first? -/
def stB : List ByteArray → List ByteArray → Bool
  | [], _ => true
  | _ :: _, [] => false
  | x :: xs, y :: ys => if x.toList == y.toList then stB xs ys else false
theorem stB_len : ∀ xs ys, stB xs ys = true → xs.length ≤ ys.length
  | [], _, _ => by simp
  | _ :: _, [], h => by simp [stB] at h
  | x :: xs, y :: ys, h => by
    simp only [stB] at h
    split at h
    · have := stB_len xs ys h; simp; omega
    · cases h
theorem stB_long (xs ys : List ByteArray) (h : ys.length < xs.length) : stB xs ys = false := by
  cases e : stB xs ys with
  | true => have := stB_len _ _ e; omega
  | false => rfl
/-- How two paths clash: 56: they are the same; 57: one is a folder of the other; 0: not. -/
def bothV (a b : List ByteArray) : Int := if stB a b = true ∧ stB b a = true then 56 else if stB a b = true ∨ stB b a = true then 57 else 0
theorem take_drop (P : List (List ByteArray)) (q k : Nat) (h : q < k) (hk : k ≤ P.length) : (P.take k).drop q = lx P q :: (P.take k).drop (q + 1) := by
  rw [nth_drop [] (P.take k) q (by rw [List.length_take]; omega)]
  congr 1
  simp only [nth, lx, List.getD_eq_getElem?_getD, List.getElem?_take]
  rw [if_pos h]
/-- The first of the lists with which p clashes (they are counted from i on), and how. -/
def find1 (p : List ByteArray) : List (List ByteArray) → Nat → Option (Nat × Int)
  | [], _ => none
  | q :: r, i => if bothV q p = 0 then find1 p r (i + 1) else some (i, bothV q p)
def clashFrom (P : List (List ByteArray)) : Nat → Nat → Int × Int × Int
  | 0, _ => (0, 0, 0)
  | b + 1, j => if j < P.length then (match find1 (lx P j) (P.take j) 0 with | some (i, e) => ((i : Int), (j : Int), e) | none => clashFrom P b (j + 1)) else (0, 0, 0)
theorem clashFrom_end (P : List (List ByteArray)) (b j : Nat) (h : ¬ j < P.length) : clashFrom P b j = (0, 0, 0) := by
  cases b with
  | zero => rfl
  | succ b => simp [clashFrom, h]
theorem clashFrom_none (P : List (List ByteArray)) (b j : Nat) (h : j < P.length) (hf : find1 (lx P j) (P.take j) 0 = none) : clashFrom P (b + 1) j = clashFrom P b (j + 1) := by
  simp only [clashFrom, if_pos h, hf]
theorem clashFrom_some (P : List (List ByteArray)) (b j i : Nat) (e : Int) (h : j < P.length) (hf : find1 (lx P j) (P.take j) 0 = some (i, e)) : clashFrom P (b + 1) j = ((i : Int), (j : Int), e) := by
  simp only [clashFrom, if_pos h, hf]
/-- The three results of Clash. -/
def ClashV (P : List (List ByteArray)) : Value := .tuple #[.int .i64 (clashFrom P P.length 0).1, .int .i64 (clashFrom P P.length 0).2.1, .int .i64 (clashFrom P P.length 0).2.2]
end Nm
end Go.Proofs.YtpkeabggkeecaaaDoor
