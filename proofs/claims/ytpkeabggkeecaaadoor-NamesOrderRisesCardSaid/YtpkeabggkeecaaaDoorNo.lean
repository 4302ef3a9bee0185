/- Layer 5: the order of paths is a total one; begins. -/
import Derived.Test.YtpkeabggkeecaaaDoorNi
import Derived.Test.YtpkeabggkeecaaaDoorNl
set_option linter.unusedVariables false
set_option linter.unusedSimpArgs false
namespace Go.Proofs.YtpkeabggkeecaaaDoor
open Go.RowKit Go.Proofs.YtpkeabggkeecaaaDoorW.PrintWords
namespace Nm
open Wd
theorem ltS_trans {a b c : ByteArray} (h : ltS a b = true) (h' : ltS b c = true) : ltS a c = true := by
  unfold ltS at *
  rw [bytesLess_eq] at *
  simp only [decide_eq_true_eq] at *
  exact List.lt_trans h h'
theorem ltS_congr {a b c d : ByteArray} (h : a.toList = c.toList) (h' : b.toList = d.toList) : ltS a b = ltS c d := by unfold ltS; rw [h, h']
theorem lessL_irr : ∀ xs, lessL xs xs = false
  | [] => rfl
  | x :: xs => by simp [lessL, lessL_irr xs]
theorem lessL_asymm : ∀ xs ys, lessL xs ys = true → lessL ys xs = false
  | [], [], h => by cases h
  | [], _ :: _, _ => rfl
  | _ :: _, [], h => by cases h
  | x :: xs, y :: ys, h => by
    simp only [lessL, beq_iff_eq] at h ⊢
    by_cases e : x.toList = y.toList
    · rw [if_pos e] at h; rw [if_pos e.symm]; exact lessL_asymm xs ys h
    · rw [if_neg e] at h; rw [if_neg (Ne.symm e)]; exact ltS_asymm h
theorem lessL_total : ∀ xs ys, lessL xs ys = lessL ys xs → sameB xs ys = true
  | [], [], _ => rfl
  | [], _ :: _, h => by cases h
  | _ :: _, [], h => by cases h
  | x :: xs, y :: ys, h => by
    simp only [lessL, sameB, beq_iff_eq] at h ⊢
    by_cases e : x.toList = y.toList
    · rw [if_pos e, if_pos e.symm] at h; rw [if_pos e]; exact lessL_total xs ys h
    · rw [if_neg e, if_neg (Ne.symm e)] at h
      rw [if_neg e]
      cases h1 : ltS x y with
      | true => rw [h1] at h; have := ltS_asymm h1; rw [← h] at this; cases this
      | false => rw [h1] at h; exact absurd (ltS_eq h1 h.symm) e
theorem lessL_trans : ∀ xs ys zs, lessL xs ys = true → lessL ys zs = true → lessL xs zs = true
  | [], [], _, h, _ => by cases h
  | [], _ :: _, [], _, h => by cases h
  | [], _ :: _, _ :: _, _, _ => rfl
  | _ :: _, [], _, h, _ => by cases h
  | _ :: _, _ :: _, [], _, h => by cases h
  | x :: xs, y :: ys, z :: zs, h, h' => by
    simp only [lessL, beq_iff_eq] at h h' ⊢
    by_cases e : x.toList = y.toList
    · rw [if_pos e] at h
      by_cases e' : y.toList = z.toList
      · rw [if_pos e'] at h'; rw [if_pos (e.trans e')]; exact lessL_trans xs ys zs h h'
      · rw [if_neg e'] at h'; rw [if_neg (by rw [e]; exact e'), ltS_congr e rfl]; exact h'
    · rw [if_neg e] at h
      by_cases e' : y.toList = z.toList
      · rw [if_neg (by rw [← e']; exact e), ltS_congr rfl e'.symm]; exact h
      · rw [if_neg e'] at h'
        have := ltS_trans h h'
        rw [if_neg (ltS_ne this)]; exact this
theorem lessL_in (zs : List ByteArray) : ∀ xs, lessL xs (xs ++ zs) = decide ((0 : Int) < (zs.length : Int))
  | [] => by cases zs <;> simp [lessL]
  | x :: xs => by simp only [List.cons_append, lessL, beq_self_eq_true, if_true]; exact lessL_in zs xs
theorem lessL_behind (zs : List ByteArray) : ∀ xs ys, lessL xs ys = true → stB xs ys = false → lessL (xs ++ zs) ys = true
  | [], _, _, h => by cases h
  | _ :: _, [], h, _ => by cases h
  | x :: xs, y :: ys, h, h' => by
    simp only [List.cons_append, lessL, stB, beq_iff_eq] at h h' ⊢
    by_cases e : x.toList = y.toList
    · rw [if_pos e] at h h' ⊢; exact lessL_behind zs xs ys h h'
    · rw [if_neg e] at h ⊢; exact h
theorem same_take : ∀ xs ys, xs.length ≤ ys.length → sameB xs (ys.take xs.length) = stB xs ys
  | [], ys, _ => by simp [sameB, stB]
  | _ :: _, [], h => by simp at h
  | x :: xs, y :: ys, h => by
    simp only [List.length_cons, List.take_succ_cons, sameB, stB]
    rw [same_take xs ys (by simpa using h)]
set_option maxRecDepth 100000 in
theorem begins_q (A0 : Option Addr) (c0 : Nat) (xs : List ByteArray) (A1 : Option Addr) (c1 : Nat) (ys : List ByteArray) (w : World) (hr0 : Kd.string.C w A0 xs.length xs) (hr1 : Kd.string.C w A1 ys.length ys) (hc1 : ys.length ≤ c1) (hl : xs.length ≤ 8796093022207) :
    Calls Tryd.prog 17 #[.slice A0 xs.length c0, .slice A1 ys.length c1] w fun e w' => e = .returned (.bool (stB xs ys)) ∧ ∃ m, w' = w.drewN m := by
  by_cases hl1 : xs.length ≤ ys.length
  · have HC : Hid (∀ c (w : World), Kd.string.C w A0 xs.length xs → Kd.string.C w A1 ys.length ys → Calls Tryd.prog 13 #[.slice A0 xs.length c0, .slice A1 xs.length c] w fun e w' => e = .returned (.bool (stB xs ys)) ∧ ∃ m, w' = w.drewN m) := Lib.hid fun c w h1 h2 => by
      have h3 := Kd.C_take h2 hl1
      have e : (ys.take xs.length).length = xs.length := by rw [List.length_take]; omega
      have := same_q A0 c0 xs A1 c (ys.take xs.length) w h1 h3 hl
      rw [e, same_take xs ys hl1] at this
      exact this
    have HR0 := Aside0.mk hr0
    have HR1 := Aside0.mk hr1
    clear hr0 hr1
    have q0 : (0 : Int) ≤ (xs.length : Int) := by omega
    have q1 : (xs.length : Int) ≤ (c1 : Int) := by omega
    generalize stB xs ys = b at *
    go_enter Tryd.func17, Tryd.ntmps17
    go_wp2_with (go_at_call 13; refine (HC.out _ _ HR0.out HR1.out).mono ?_; rintro e w1 ⟨rfl, m, rfl⟩)
    all_goals first | omega | skip
    go_ret
    exact ⟨rfl, m, rfl⟩
  · have hst : stB xs ys = false := stB_long xs ys (by omega)
    rw [hst]
    go_enter Tryd.func17, Tryd.ntmps17
    go_wp2
    go_ret
    exact ⟨rfl, 0, rfl⟩
theorem begins_any (A0 : Option Addr) (c0 : Nat) (xs : List ByteArray) (A1 : Option Addr) (c1 : Nat) (ys : List ByteArray) (w : World) (hr0 : Kd.string.C w A0 xs.length xs) (hr1 : Kd.string.C w A1 ys.length ys) (hc1 : ys.length ≤ c1) (hl : xs.length ≤ 8796093022207) :
    Calls Tryd.prog 17 #[.slice A0 xs.length c0, .slice A1 ys.length c1] w fun e w' => e = .returned (.bool (stB xs ys)) ∧ Below w.heap.size w w' :=
  (begins_q A0 c0 xs A1 c1 ys w hr0 hr1 hc1 hl).mono fun e w' ⟨h, m, h'⟩ => ⟨h, by rw [h']; exact below_drewN (Below.refl _ _) m⟩
end Nm
end Go.Proofs.YtpkeabggkeecaaaDoor
