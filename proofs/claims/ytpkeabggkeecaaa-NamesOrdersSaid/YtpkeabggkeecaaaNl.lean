/- Layer 5 (names): Less of the package and of its reference. -/
import Derived.Test.YtpkeabggkeecaaaNf
import Derived.Sort.Walk0
import Derived.WalkLawsBesides
set_option linter.unusedVariables false
set_option linter.unusedSimpArgs false
namespace Go.Proofs.Ytpkeabggkeecaaa
open Go.RowKit Go.Proofs.YtpkeabggkeecaaaW.PrintWords
namespace Nm
open Wd
/-! ### Less -/
def ltS (a b : ByteArray) : Bool := Op.bytesLess a.toList b.toList
theorem ltS_irr (a : ByteArray) : ltS a a = false := by unfold ltS; rw [bytesLess_eq]; simp [List.lt_irrefl]
theorem ltS_eq {a b : ByteArray} (h : ltS a b = false) (h' : ltS b a = false) : a.toList = b.toList := by
  unfold ltS at h h'; rw [bytesLess_eq] at h h'; simp at h h'
  exact List.le_antisymm h' h
theorem ltS_asymm {a b : ByteArray} (h : ltS a b = true) : ltS b a = false := by
  unfold ltS at h ⊢; rw [bytesLess_eq] at h ⊢; simp at h ⊢; exact List.le_of_lt h
theorem ltS_ne {a b : ByteArray} (h : ltS a b = true) : a.toList ≠ b.toList := by
  intro e; unfold ltS at h; rw [e, bytesLess_eq] at h; simp [List.lt_irrefl] at h
def cmpS (a b : ByteArray) : Int := if ltS a b = true then -1 else if ltS b a = true then 1 else 0
theorem cmpS_zero (a b : ByteArray) : cmpS a b = 0 ↔ a.toList = b.toList := by
  unfold cmpS
  constructor
  · intro h
    split at h
    · omega
    · split at h
      · omega
      · rename_i h1 h2; exact ltS_eq (Bool.eq_false_iff.mpr h1) (Bool.eq_false_iff.mpr h2)
  · intro h
    have h1 : ltS a b = false := by unfold ltS; rw [h]; exact ltS_irr b
    have h2 : ltS b a = false := by unfold ltS; rw [h]; exact ltS_irr b
    rw [h1, h2]; rfl
def cmpL : List ByteArray → List ByteArray → Int
  | [], [] => 0
  | [], _ :: _ => -1
  | _ :: _, [] => 1
  | x :: xs, y :: ys => if cmpS x y = 0 then cmpL xs ys else cmpS x y
/-- Does the first list come ahead? -/
def lessL : List ByteArray → List ByteArray → Bool
  | [], [] => false
  | [], _ :: _ => true
  | _ :: _, [] => false
  | x :: xs, y :: ys => if x.toList == y.toList then lessL xs ys else ltS x y
theorem lessL_cmp : ∀ xs ys, decide (cmpL xs ys < 0) = lessL xs ys
  | [], [] => rfl
  | [], _ :: _ => rfl
  | _ :: _, [] => rfl
  | x :: xs, y :: ys => by
    by_cases h : x.toList = y.toList
    · have e1 : cmpL (x :: xs) (y :: ys) = cmpL xs ys := by simp only [cmpL]; rw [if_pos ((cmpS_zero x y).2 h)]
      have e2 : lessL (x :: xs) (y :: ys) = lessL xs ys := by simp only [lessL]; rw [if_pos (by simpa using h)]
      rw [e1, e2, lessL_cmp xs ys]
    · have h' : ¬ cmpS x y = 0 := fun e => h ((cmpS_zero x y).1 e)
      have e1 : cmpL (x :: xs) (y :: ys) = cmpS x y := by simp only [cmpL]; rw [if_neg h']
      have e2 : lessL (x :: xs) (y :: ys) = ltS x y := by simp only [lessL]; rw [if_neg (by simpa using h)]
      rw [e1, e2]
      unfold cmpS at h' ⊢
      cases e1 : ltS x y with
      | true => simp
      | false => rw [e1] at h'; cases e2 : ltS y x <;> simp_all
theorem nan_any (a : ByteArray) (w : World) : Calls Try.prog 39 #[.string a] w fun e w' => e = .returned (.bool false) ∧ w = w' := by
  have h : (a.toList != a.toList) = false := by simp
  go_enter Try.func39, Try.ntmps39
  go_wp2
  go_ret
  exact ⟨ret_b (by simp), rfl⟩
theorem cmp_any (a b : ByteArray) (w : World) : Calls Try.prog 24 #[.string a, .string b] w fun e w' => e = .returned (.int .i64 (cmpS a b)) ∧ w = w' := by
  cases h1 : ltS a b with
  | true =>
    have HF : Hid (cmpS a b = -1) := Lib.hid (by simp [cmpS, h1])
    have h1' : Op.bytesLess a.toList b.toList = true := h1
    clear h1
    go_enter Try.func24, Try.ntmps24
    go_wp2_with (go_at_call 39; refine (nan_any _ _).mono ?_; rintro e w' ⟨rfl, rfl⟩)
    go_ret
    exact ⟨ret_i (by rw [HF.out]), rfl⟩
  | false =>
    cases h2 : ltS b a with
    | true =>
      have HF : Hid (cmpS a b = 1) := Lib.hid (by simp [cmpS, h1, h2])
      have h1' : Op.bytesLess a.toList b.toList = false := h1
      have h2' : Op.bytesLess b.toList a.toList = true := h2
      have h3 : (a.toList == b.toList) = false := by have := ltS_ne h2; simp; exact fun e => this e.symm
      clear h1 h2
      go_enter Try.func24, Try.ntmps24
      go_wp2_with (go_at_call 39; refine (nan_any _ _).mono ?_; rintro e w' ⟨rfl, rfl⟩)
      go_ret
      exact ⟨ret_i (by rw [HF.out]), rfl⟩
    | false =>
      have HF : Hid (cmpS a b = 0) := Lib.hid (by simp [cmpS, h1, h2])
      have h1' : Op.bytesLess a.toList b.toList = false := h1
      have h2' : Op.bytesLess b.toList a.toList = false := h2
      have h3 : (a.toList == b.toList) = true := by simpa using ltS_eq h1 h2
      clear h1 h2
      go_enter Try.func24, Try.ntmps24
      go_wp2_with (go_at_call 39; refine (nan_any _ _).mono ?_; rintro e w' ⟨rfl, rfl⟩)
      go_ret
      exact ⟨ret_i (by rw [HF.out]), rfl⟩
set_option maxRecDepth 100000 in
theorem compare_any (A0 : Option Addr) (c0 : Nat) (xs : List ByteArray) (A1 : Option Addr) (c1 : Nat) (ys : List ByteArray) (w : World) (hr0 : Kd.string.C w A0 xs.length xs) (hr1 : Kd.string.C w A1 ys.length ys) (hl : xs.length ≤ 8796093022207) (hl1 : ys.length ≤ 8796093022207) :
    Calls Try.prog 14 #[.slice A0 xs.length c0, .slice A1 ys.length c1] w fun e w' => e = .returned (.int .i64 (cmpL xs ys)) ∧ w = w' := by
  have HR0 := Aside0.mk hr0
  have HR1 := Aside0.mk hr1
  clear hr0 hr1
  go_enter Try.func14, Try.ntmps14
  go_wp2
  go_loop [11] (fun i => ∃ k : Nat, k ≤ xs.length ∧ k ≤ ys.length ∧ i = .int .i64 k ∧ Hid (cmpL (xs.drop k) (ys.drop k) = cmpL xs ys)) (fun i => xs.length - (intOf i).toNat)
  case atStart => exact ⟨0, by omega, by omega, rfl, Lib.hid rfl⟩
  case round =>
    obtain ⟨k, hk, hk1, rfl, HC⟩ := hrel
    by_cases hlt : k < xs.length
    · obtain ⟨ad, e0, hx⟩ := at_str HR0.out k hlt
      cases e0
      by_cases hlt2 : k < ys.length
      · obtain ⟨bd, e1, hy⟩ := at_str HR1.out k hlt2
        cases e1
        have HU : Hid (cmpL (xs.drop k) (ys.drop k) = if cmpS (sx xs k) (sx ys k) = 0 then cmpL (xs.drop (k + 1)) (ys.drop (k + 1)) else cmpS (sx xs k) (sx ys k)) :=
          Lib.hid (by rw [sx_drop xs k hlt, sx_drop ys k hlt2]; rfl)
        generalize hcm : cmpS (sx xs k) (sx ys k) = c at HU
        have HCA : Hid (∀ w : World, Calls Try.prog 24 #[.string (sx xs k), .string (sx ys k)] w fun e w' => e = .returned (.int .i64 c) ∧ w = w') := Lib.hid fun w => by rw [← hcm]; exact cmp_any _ _ w
        clear hcm
        by_cases hc : c = 0
        · rw [if_pos hc] at HU
          have hc1 : (c == 0) = true := by simp [hc]
          have hc2 : (c != 0) = false := by simp [hc]
          clear hc
          go_wp2_with (go_at_call 24; refine (HCA.out _).mono ?_; rintro e w1 ⟨rfl, rfl⟩)
          go_round
          case rel => exact ⟨k + 1, by omega, by omega, by go_num, Lib.hid (by rw [← HC.out, HU.out])⟩
          case measure => simp [intOf]; omega
        · rw [if_neg hc] at HU
          have hc1 : (c == 0) = false := by simp [hc]
          have hc2 : (c != 0) = true := by simp [hc]
          clear hc
          go_wp2_with (go_at_call 24; refine (HCA.out _).mono ?_; rintro e w1 ⟨rfl, rfl⟩)
          go_ret
          exact ⟨ret_i (by rw [← HC.out, HU.out]), rfl⟩
      · have HU : Hid (cmpL (xs.drop k) (ys.drop k) = 1) := Lib.hid (by rw [sx_drop xs k hlt, show ys.drop k = [] from List.drop_of_length_le (by omega)]; rfl)
        go_wp2
        go_ret
        exact ⟨ret_i (by rw [← HC.out, HU.out]), rfl⟩
    · by_cases hlt2 : k < ys.length
      · have HU : Hid (cmpL (xs.drop k) (ys.drop k) = -1) := Lib.hid (by rw [sx_drop ys k hlt2, show xs.drop k = [] from List.drop_of_length_le (by omega)]; rfl)
        go_wp2
        all_goals try omega
        all_goals (go_ret; exact ⟨ret_i (by rw [← HC.out, HU.out]), rfl⟩)
      · have HU : Hid (cmpL (xs.drop k) (ys.drop k) = 0) := Lib.hid (by rw [List.drop_of_length_le (by omega), List.drop_of_length_le (by omega)]; rfl)
        go_wp2
        all_goals try omega
        all_goals (go_ret; exact ⟨ret_i (by rw [← HC.out, HU.out]), rfl⟩)
set_option maxRecDepth 100000 in
theorem refLess_q (A0 : Option Addr) (c0 : Nat) (xs : List ByteArray) (A1 : Option Addr) (c1 : Nat) (ys : List ByteArray) (w : World) (hr0 : Kd.string.C w A0 xs.length xs) (hr1 : Kd.string.C w A1 ys.length ys) (hl : xs.length ≤ 8796093022207) (hl1 : ys.length ≤ 8796093022207) :
    Calls Try.prog 17 #[.slice A0 xs.length c0, .slice A1 ys.length c1] w fun e w' => e = .returned (.bool (lessL xs ys)) ∧ ∃ m, w' = w.drewN m := by
  have HR0 := Aside0.mk hr0
  have HR1 := Aside0.mk hr1
  clear hr0 hr1
  go_enter Try.func17, Try.ntmps17
  go_wp2
  go_loopw [5] (fun i wr => ∃ k m : Nat, k ≤ xs.length ∧ k ≤ ys.length ∧ i = .int .i64 k ∧ Hid (lessL (xs.drop k) (ys.drop k) = lessL xs ys) ∧ wr = w.drewN m) (fun i _ => xs.length - (intOf i).toNat)
  case atStart => exact ⟨0, 0, by omega, by omega, rfl, Lib.hid rfl, rfl⟩
  case round =>
    obtain ⟨k, m, hk, hk1, rfl, HC, rfl⟩ := hrel
    by_cases hlt : k < xs.length
    · obtain ⟨ad, e0, hx⟩ := at_str HR0.out k hlt
      cases e0
      by_cases hlt2 : k < ys.length
      · obtain ⟨bd, e1, hy⟩ := at_str HR1.out k hlt2
        cases e1
        have HU : Hid (lessL (xs.drop k) (ys.drop k) = if (sx xs k).toList == (sx ys k).toList then lessL (xs.drop (k + 1)) (ys.drop (k + 1)) else ltS (sx xs k) (sx ys k)) :=
          Lib.hid (by rw [sx_drop xs k hlt, sx_drop ys k hlt2]; rfl)
        cases heq : ((sx xs k).toList == (sx ys k).toList) with
        | true =>
          have heq2 : ((sx xs k).toList != (sx ys k).toList) = false := by simp [bne, heq]
          rw [heq] at HU
          go_wp2
          go_quiet (fail)
          go_wp2
          go_roundw
          case rel => exact ⟨k + 1, m + nq, by omega, by omega, by go_num, Lib.hid (by rw [← HC.out, HU.out]; rfl), by first | rfl | rw [World.drewN_drewN]⟩
          case measure => simp [intOf]; omega
        | false =>
          have heq2 : ((sx xs k).toList != (sx ys k).toList) = true := by simp [bne, heq]
          rw [heq] at HU
          go_wp2
          go_quiet (fail)
          go_wp2
          go_quiet (fail)
          go_wp2
          go_ret
          exact ⟨ret_b (by rw [← HC.out, HU.out]; rfl), by simp only [World.drewN_drewN]; exact ⟨_, rfl⟩⟩
      · have HU : Hid (lessL (xs.drop k) (ys.drop k) = false) := Lib.hid (by rw [sx_drop xs k hlt, show ys.drop k = [] from List.drop_of_length_le (by omega)]; rfl)
        have hd : decide ((xs.length : Int) < (ys.length : Int)) = false := decide_eq_false (by omega)
        have hd' : decide (xs.length < ys.length) = false := decide_eq_false (by omega)
        go_wp2
        go_ret
        exact ⟨ret_b (by rw [← HC.out, HU.out]), m, rfl⟩
    · have hd0 : decide ((k : Int) < (xs.length : Int)) = false := decide_eq_false (by omega)
      by_cases hlt2 : k < ys.length
      · have HU : Hid (lessL (xs.drop k) (ys.drop k) = true) := Lib.hid (by rw [sx_drop ys k hlt2, show xs.drop k = [] from List.drop_of_length_le (by omega)]; rfl)
        have hd : decide ((xs.length : Int) < (ys.length : Int)) = true := decide_eq_true (by omega)
        have hd' : decide (xs.length < ys.length) = true := decide_eq_true (by omega)
        go_wp2
        go_ret
        exact ⟨ret_b (by rw [← HC.out, HU.out]), m, rfl⟩
      · have HU : Hid (lessL (xs.drop k) (ys.drop k) = false) := Lib.hid (by rw [List.drop_of_length_le (by omega), List.drop_of_length_le (by omega)]; rfl)
        have hd : decide ((xs.length : Int) < (ys.length : Int)) = false := decide_eq_false (by omega)
        have hd' : decide (xs.length < ys.length) = false := decide_eq_false (by omega)
        go_wp2
        go_ret
        exact ⟨ret_b (by rw [← HC.out, HU.out]), m, rfl⟩
theorem refLess_any (A0 : Option Addr) (c0 : Nat) (xs : List ByteArray) (A1 : Option Addr) (c1 : Nat) (ys : List ByteArray) (w : World) (hr0 : Kd.string.C w A0 xs.length xs) (hr1 : Kd.string.C w A1 ys.length ys) (hl : xs.length ≤ 8796093022207) (hl1 : ys.length ≤ 8796093022207) :
    Calls Try.prog 17 #[.slice A0 xs.length c0, .slice A1 ys.length c1] w fun e w' => e = .returned (.bool (lessL xs ys)) ∧ Below w.heap.size w w' :=
  (refLess_q A0 c0 xs A1 c1 ys w hr0 hr1 hl hl1).mono fun e w' ⟨h, m, h2⟩ => ⟨h, by rw [h2]; exact below_drewN (Below.refl _ _) _⟩
end Nm
end Go.Proofs.Ytpkeabggkeecaaa
