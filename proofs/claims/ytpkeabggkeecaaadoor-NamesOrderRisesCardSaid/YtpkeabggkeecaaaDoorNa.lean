/- Layer 5 (names), walks: what each Go function of package names and of its reference answers, as a plain function of its strings: Utf8, Component, Path. Conditions: a string's length is within the form's reach. -/
import Derived.Test.YtpkeabggkeecaaaDoorWd
set_option linter.unusedVariables false
set_option linter.unusedSimpArgs false
namespace Go.Proofs.YtpkeabggkeecaaaDoor
open Go.RowKit Go.Proofs.YtpkeabggkeecaaaDoorW.PrintWords
namespace Nm
open Wd
/-- Does the text begin with p? -/
def pre (s p : ByteArray) : Bool := decide (p.size ≤ s.size) && ((s.extract 0 p.size).toList == p.toList)
theorem hasPrefix0_any (s p : ByteArray) (w : World) : Calls Tryd.prog 34 #[.string s, .string p] w fun e w' => e = .returned (.bool (pre s p)) ∧ w = w' := by
  by_cases h : p.size ≤ s.size
  · have hd : decide (p.size ≤ s.size) = true := by simpa using h
    go_enter Tryd.func34, Tryd.ntmps34
    go_wp2
    go_ret
    exact ⟨by simp [pre, h], rfl⟩
  · have hd : decide (p.size ≤ s.size) = false := by simpa using h
    go_enter Tryd.func34, Tryd.ntmps34
    go_wp2
    go_ret
    exact ⟨by simp [pre, h], rfl⟩
theorem hasPrefix_any (s p : ByteArray) (w : World) : Calls Tryd.prog 23 #[.string s, .string p] w fun e w' => e = .returned (.bool (pre s p)) ∧ w = w' := by
  go_enter Tryd.func23, Tryd.ntmps23
  go_wp2_with (go_at_call 34; refine (hasPrefix0_any _ _ _).mono ?_; rintro e w' ⟨rfl, rfl⟩)
  go_ret
  exact ⟨rfl, rfl⟩
/-- Is the byte at i no sign's, though a sign of the text is looked for there? -/
def badAt (s : ByteArray) (i : Nat) : Bool := ((Utf8.decode s i).1 == 65533) && !pre (s.extract i s.size) ⟨#[239, 191, 189]⟩
/-- The first such byte from i on. -/
def sgn (s : ByteArray) : Nat → Nat → Int
  | 0, _ => -1
  | k + 1, i => if i < s.size then (if badAt s i = true then (i : Int) else sgn s k (i + (Utf8.decode s i).2)) else -1
theorem sgn_end (s : ByteArray) (b i : Nat) (h : ¬ i < s.size) : sgn s b i = -1 := by
  cases b with
  | zero => rfl
  | succ b => simp [sgn, h]
theorem width_pos (s : ByteArray) (pos : Nat) (h : pos < s.size) : 1 ≤ (Utf8.decode s pos).2 := by
  by_cases ha : (s[pos]'h).toNat < 128
  · rw [decode_ascii s pos h ha]
    exact Nat.le_refl _
  · exact (decode_high s pos h (by omega)).2
set_option maxRecDepth 1000000 in
theorem utf8_any (s : ByteArray) (w : World) :
    Calls Tryd.prog 15 #[.string s] w fun e w' => e = .returned (.int .i64 (sgn s s.size 0)) ∧ Below w.heap.size w w' := by
  go_enter Tryd.func15, Tryd.ntmps15
  go_wp2
  go_loopw [] (fun w' => ∃ (pos b : Nat), w' = w.iter s pos ∧ sgn s b pos = sgn s s.size 0 ∧ s.size ≤ pos + b) (fun w' => s.size - w'.iterPos w.heap.size)
  case atStart => exact ⟨0, s.size, rfl, rfl, by omega⟩
  case round =>
    obtain ⟨pos, b, rfl, hc, hb⟩ := hrel
    have HC := Lib.hid hc
    clear hc
    by_cases hp : pos < s.size
    · have hnx : ∀ ty, (Instr.next (.pointer (some ⟨w.heap.size, 0, none⟩)) true ty).run Tryd.prog (w.iter s pos) = _ := fun ty => run_next_any w s pos ty hp
      have hw := width_pos s pos hp
      obtain ⟨b, rfl⟩ : ∃ m, b = m + 1 := ⟨b - 1, by omega⟩
      have hu : sgn s (b + 1) pos = if badAt s pos = true then (pos : Int) else sgn s b (pos + (Utf8.decode s pos).2) := by simp [sgn, hp]
      have HU := Lib.hid hu
      clear hu
      by_cases hr : (Utf8.decode s pos).1 = 65533
      · have hr1 : (((Utf8.decode s pos).1 : Int) == 65533) = true := by simp [hr]
        have hba : badAt s pos = !pre (s.extract pos s.size) ⟨#[239, 191, 189]⟩ := by simp [badAt, hr]
        have HBA := Lib.hid hba
        clear hr hba
        by_cases hpr : pre (s.extract pos s.size) ⟨#[239, 191, 189]⟩ = true
        · go_wp2_with (go_at_call 23; refine (hasPrefix_any _ _ _).mono ?_; rintro e w' ⟨rfl, rfl⟩)
          go_roundw
          case rel =>
            refine ⟨pos + (Utf8.decode s pos).2, b, rfl, ?_, by omega⟩
            rw [← HC.out, HU.out, HBA.out, hpr]
            rfl
          case measure =>
            simp
            omega
        · replace hpr := Bool.eq_false_iff.mpr hpr
          go_wp2_with (go_at_call 23; refine (hasPrefix_any _ _ _).mono ?_; rintro e w' ⟨rfl, rfl⟩)
          go_ret
          refine ⟨ret_i ?_, bel_iter (Below.refl _ _) _ _⟩
          rw [← HC.out, HU.out, HBA.out, hpr]
          rfl
      · have hr1 : (((Utf8.decode s pos).1 : Int) == 65533) = false := by simp; omega
        have hba : badAt s pos = false := by simp [badAt, hr]
        have HBA := Lib.hid hba
        clear hr hba
        go_wp2
        go_roundw
        case rel =>
          refine ⟨pos + (Utf8.decode s pos).2, b, rfl, ?_, by omega⟩
          rw [← HC.out, HU.out, HBA.out]
          rfl
        case measure =>
          simp
          omega
    · have hnx : ∀ ty, (Instr.next (.pointer (some ⟨w.heap.size, 0, none⟩)) true ty).run Tryd.prog (w.iter s pos) = _ := fun ty => run_next_end w s pos ty hp
      go_wp2
      go_ret
      have hc := HC.out
      rw [sgn_end s b pos hp] at hc
      exact ⟨ret_i hc, bel_iter (Below.refl _ _) _ _⟩
/-! ### the reference's Utf8 -/
/-- What the wide table of torrentref5 tells of a first byte. -/
def wide (c : Int) : Int := if c < 128 then 1 else if c < 192 then 0 else if c < 224 then 2 else if c < 240 then 3 else if c < 248 then 4 else 0
def signL (s : ByteArray) (i : Nat) (n : Int) : Nat → Nat → Int → Int
  | 0, _, v => v
  | b + 1, k, v => if (k : Int) < n then (if byt s (i + k) < 128 ∨ 191 < byt s (i + k) then -1 else signL s i n b (k + 1) (v * 64 + byt s (i + k) - 128)) else v
def first (n : Int) : Int := if n = 2 then 192 else if n = 3 then 224 else 240
def bnd (k : Nat) : Int := if k = 1 then 300 else if k = 2 then 20000 else if k = 3 then 1300000 else 90000000
theorem signL_end (s : ByteArray) (i : Nat) (n : Int) (b k : Nat) (v : Int) (h : ¬ (k : Int) < n) : signL s i n b k v = v := by
  cases b with
  | zero => rfl
  | succ b => simp [signL, h]
theorem bnd_step (k : Nat) (h : 1 ≤ k) (h3 : k < 4) (x c : Int) (h1 : -bnd k ≤ x) (h2 : x ≤ bnd k) (c0 : 0 ≤ c) (c1 : c ≤ 255) : -bnd (k + 1) ≤ x * 64 + c - 128 ∧ x * 64 + c - 128 ≤ bnd (k + 1) ∧ -90000000 ≤ x ∧ x ≤ 90000000 := by
  obtain rfl | rfl | rfl : k = 1 ∨ k = 2 ∨ k = 3 := by omega
  all_goals (simp [bnd] at *; omega)
def short (n : Nat) : Int := if n = 2 then 128 else if n = 3 then 2048 else 65536
/-- What torrentref5's formed answers. -/
def formedV (s : ByteArray) (i : Nat) : Int :=
  if wide (byt s i) < 2 then wide (byt s i) else if (s.size : Int) < i + wide (byt s i) then 0
  else if signL s i (wide (byt s i)) 4 1 (byt s i - first (wide (byt s i))) < short (wide (byt s i)).toNat ∨ 1114111 < signL s i (wide (byt s i)) 4 1 (byt s i - first (wide (byt s i))) ∨ 55296 ≤ signL s i (wide (byt s i)) 4 1 (byt s i - first (wide (byt s i))) ∧ signL s i (wide (byt s i)) 4 1 (byt s i - first (wide (byt s i))) ≤ 57343 then 0
  else wide (byt s i)
theorem wide_le (c : Int) : 0 ≤ wide c ∧ wide c ≤ 4 := by unfold wide; (repeat' split) <;> omega
end Nm
end Go.Proofs.YtpkeabggkeecaaaDoor
