/- Layer 5: the order of paths is a total one; begins. -/
import Derived.Test.YtpkeabggkeecaaaNi
import Derived.Test.YtpkeabggkeecaaaNl
set_option linter.unusedVariables false
set_option linter.unusedSimpArgs false
namespace Go.Proofs.Ytpkeabggkeecaaa
open Go.RowKit Go.Proofs.YtpkeabggkeecaaaW.PrintWords
namespace Nm
open Wd
theorem ltS_trans {a b c : ByteArray} (h : ltS a b = true) (h' : ltS b c = true) : ltS a c = true := by
  unfold ltS at *
  rw [bytesLess_eq] at *
  simp only [decide_eq_true_eq] at *
  exact List.lt_trans h h'
theorem ltS_congr {a b c d : ByteArray} (h : a.toList = c.toList) (h' : b.toList = d.toList) : ltS a b = ltS c d := by unfold ltS; rw [h, h']
theorem lessL_irr : ∀ xs, lessL xs xs = false
  | [] => rfl
  | x :: xs => by simp [lessL, lessL_irr xs]
theorem lessL_asymm : ∀ xs ys, lessL xs ys = true → lessL ys xs = false
  | [], [], h => by cases h
  | [], _ :: _, _ => rfl
  | _ :: _, [], h => by cases h
  | x :: xs, y :: ys, h => by
    simp only [lessL, beq_iff_eq] at h ⊢
    by_cases e : x.toList = y.toList
    · rw [if_pos e] at h; rw [if_pos e.symm]; exact lessL_asymm xs ys h
    · rw [if_neg e] at h; rw [if_neg (Ne.symm e)]; exact ltS_asymm h
theorem lessL_total : ∀ xs ys, lessL xs ys = lessL ys xs → sameB xs ys = true
  | [], [], _ => rfl
  | [], _ :: _, h => by cases h
  | _ :: _, [], h => by cases h
  | x :: xs, y :: ys, h => by
    simp only [lessL, sameB, beq_iff_eq] at h ⊢
    by_cases e : x.toList = y.toList
    · rw [if_pos e, if_pos e.symm] at h; rw [if_pos e]; exact lessL_total xs ys h
    · rw [if_neg e, if_neg (Ne.symm e)] at h
      rw [if_neg e]
      cases h1 : ltS x y with
      | true => rw [h1] at h; have := ltS_asymm h1; rw [← h] at this; cases this
      | false => rw [h1] at h; exact absurd (ltS_eq h1 h.symm) e
theorem lessL_trans : ∀ xs ys zs, lessL xs ys = true → lessL ys zs = true → lessL xs zs = true
  | [], [], _, h, _ => by cases h
  | [], _ :: _, [], _, h => by cases h
  | [], _ :: _, _ :: _, _, _ => rfl
  | _ :: _, [], _, h, _ => by cases h
  | _ :: _, _ :: _, [], _, h => by cases h
  | x :: xs, y :: ys, z :: zs, h, h' => by
    simp only [lessL, beq_iff_eq] at h h' ⊢
    by_cases e : x.toList = y.toList
    · rw [if_pos e] at h
      by_cases e' : y.toList = z.toList
      · rw [if_pos e'] at h'; rw [if_pos (e.trans e')]; exact lessL_trans xs ys zs h h'
      · rw [if_neg e'] at h'; rw [if_neg (by rw [e]; exact e'), ltS_congr e rfl]; exact h'
    · rw [if_neg e] at h
      by_cases e' : y.toList = z.toList
      · rw [if_neg (by rw [← e']; exact e), ltS_congr rfl e'.symm]; exact h
      · rw [if_neg e'] at h'
        have := ltS_trans h h'
        rw [if_neg (ltS_ne this)]; exact this
theorem lessL_in (zs : List ByteArray) : ∀ xs, lessL xs (xs ++ zs) = decide ((0 : Int) < (zs.length : Int))
  | [] => by cases zs <;> simp [lessL]
  | x :: xs => by simp only [List.cons_append, lessL, beq_self_eq_true, if_true]; exact lessL_in zs xs
theorem lessL_behind (zs : List ByteArray) : ∀ xs ys, lessL xs ys = true → stB xs ys = false → lessL (xs ++ zs) ys = true
  | [], _, _, h => by cases h
  | _ :: _, [], h, _ => by cases h
  | x :: xs, y :: ys, h, h' => by
    simp only [List.cons_append, lessL, stB, beq_iff_eq] at h h' ⊢
    by_cases e : x.toList = y.toList
    · rw [if_pos e] at h h' ⊢; exact lessL_behind zs xs ys h h'
    · rw [if_neg e] at h ⊢; exact h
theorem same_take : ∀ xs ys, xs.length ≤ ys.length → sameB xs (ys.take xs.length) = stB xs ys
  | [], ys, _ => by simp [sameB, stB]
  | _ :: _, [], h => by simp at h
  | x :: xs, y :: ys, h => by
    simp only [List.length_cons, List.take_succ_cons, sameB, stB]
    rw [same_take xs ys (by simpa using h)]
end Nm
end Go.Proofs.Ytpkeabggkeecaaa
