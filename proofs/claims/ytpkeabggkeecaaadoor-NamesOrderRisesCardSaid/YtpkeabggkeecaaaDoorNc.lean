/- Layer 5 (names), walks: Utf8 of the reference, Component, Path: package names and its reference answer by one and the same plain function. Conditions: a string's length is within the form's reach; a list of strings is read at its address. -/
import Derived.Test.YtpkeabggkeecaaaDoorNb
set_option linter.unusedVariables false
set_option linter.unusedSimpArgs false
namespace Go.Proofs.YtpkeabggkeecaaaDoor
open Go.RowKit Go.Proofs.YtpkeabggkeecaaaDoorW.PrintWords
namespace Nm
open Wd
/-! ### Component -/
/-- May a sign stand in no name? -/
def barB (r : Int) : Bool := decide (r < 32) || (r == 127) || (r == 47) || (r == 92)
theorem barB_iff (r : Int) : barB r = true ↔ (r < 32 ∨ r = 127 ∨ r = 47 ∨ r = 92) := by simp [barB, or_assoc]
theorem barred_any (r : Int) (w : World) : Calls Tryd.prog 38 #[.int .i32 r] w fun e w' => e = .returned (.bool (barB r)) ∧ w = w' := by
  go_enter Tryd.func38, Tryd.ntmps38
  go_wp2
  all_goals (go_ret; refine ⟨ret_b ?_, rfl⟩; first | rfl | (unfold barB; simp; done) | (unfold barB; simp; omega))
def brd (s : ByteArray) : Nat → Nat → Bool
  | 0, _ => false
  | k + 1, i => if i < s.size then (barB (Utf8.decode s i).1 || brd s k (i + (Utf8.decode s i).2)) else false
theorem brd_end (s : ByteArray) (b i : Nat) (h : ¬ i < s.size) : brd s b i = false := by
  cases b with
  | zero => rfl
  | succ b => simp [brd, h]
def dotB (s : ByteArray) : Bool := (s.toList == [46]) || (s.toList == [46, 46])
/-- What Component answers. -/
def comp (s : ByteArray) : Int := if s.toList.isEmpty = true then 50 else if 255 < s.size then 51 else if 0 ≤ sgn s s.size 0 then 52 else if dotB s = true then 53 else if brd s s.size 0 = true then 54 else 0
set_option maxRecDepth 1000000 in
theorem comp_any (s : ByteArray) (w : World) : Calls Tryd.prog 29 #[.string s] w fun e w' => e = .returned (.int .i64 (comp s)) ∧ Below w.heap.size w w' := by
  by_cases h1 : s.toList.isEmpty = true
  · have HF : Hid (comp s = 50) := Lib.hid (by simp [comp, h1])
    go_enter Tryd.func29, Tryd.ntmps29
    go_wp2
    go_ret
    exact ⟨ret_i (by rw [HF.out]), Below.refl _ _⟩
  by_cases h2 : 255 < s.size
  · have HF : Hid (comp s = 51) := Lib.hid (by simp [comp, h1, h2])
    replace h1 := Bool.eq_false_iff.mpr h1
    go_enter Tryd.func29, Tryd.ntmps29
    go_wp2
    go_ret
    exact ⟨ret_i (by rw [HF.out]), Below.refl _ _⟩
  by_cases h3 : 0 ≤ sgn s s.size 0
  · have HF : Hid (comp s = 52) := Lib.hid (by simp [comp, h1, h2, h3])
    replace h1 := Bool.eq_false_iff.mpr h1
    go_enter Tryd.func29, Tryd.ntmps29
    go_wp2_with (go_at_call 15; refine (utf8_any _ _).mono ?_; rintro e w1 ⟨rfl, hb1⟩)
    go_ret
    exact ⟨ret_i (by rw [HF.out]), hb1⟩
  by_cases h4 : dotB s = true
  · have HF : Hid (comp s = 53) := Lib.hid (by simp [comp, h1, h2, h3, h4])
    replace h1 := Bool.eq_false_iff.mpr h1
    have h5 : (s.toList == [46]) = true ∨ (s.toList == [46]) = false ∧ (s.toList == [46, 46]) = true := by
      unfold dotB at h4; cases h : (s.toList == [46]) <;> simp_all
    clear h4
    rcases h5 with h5 | ⟨h5, h6⟩
    all_goals
      go_enter Tryd.func29, Tryd.ntmps29
      go_wp2_with (go_at_call 15; refine (utf8_any _ _).mono ?_; rintro e w1 ⟨rfl, hb1⟩)
      go_ret
      exact ⟨ret_i (by rw [HF.out]), hb1⟩
  have HF : Hid (comp s = if brd s s.size 0 = true then 54 else 0) := Lib.hid (by simp [comp, h1, h2, h3, h4])
  replace h1 := Bool.eq_false_iff.mpr h1
  have h5 : (s.toList == [46]) = false := by unfold dotB at h4; simp_all
  have h6 : (s.toList == [46, 46]) = false := by unfold dotB at h4; simp_all
  clear h4
  go_enter Tryd.func29, Tryd.ntmps29
  go_wp2_with (go_at_call 15; refine (utf8_any _ _).mono ?_; rintro e w1 ⟨rfl, hb1⟩)
  go_loopw [] (fun w' => ∃ (pos b : Nat), w' = w1.iter s pos ∧ Hid (brd s b pos = brd s s.size 0) ∧ s.size ≤ pos + b) (fun w' => s.size - w'.iterPos w1.heap.size)
  case atStart => exact ⟨0, s.size, rfl, Lib.hid rfl, by omega⟩
  case round =>
    obtain ⟨pos, b, rfl, HC, hb⟩ := hrel
    by_cases hp : pos < s.size
    · have hnx : ∀ ty, (Instr.next (.pointer (some ⟨w1.heap.size, 0, none⟩)) true ty).run Tryd.prog (w1.iter s pos) = _ := fun ty => run_next_any w1 s pos ty hp
      have hw := width_pos s pos hp
      obtain ⟨b, rfl⟩ : ∃ m, b = m + 1 := ⟨b - 1, by omega⟩
      have HU : Hid (brd s (b + 1) pos = (barB (Utf8.decode s pos).1 || brd s b (pos + (Utf8.decode s pos).2))) := Lib.hid (by simp [brd, hp])
      have HB : Hid (∀ w : World, Calls Tryd.prog 38 #[.int .i32 ((Utf8.decode s pos).1 : Nat)] w fun e w' => e = .returned (.bool (barB (Utf8.decode s pos).1)) ∧ w = w') := Lib.hid fun w => barred_any _ w
      cases hbb : barB (Utf8.decode s pos).1 with
      | true =>
        rw [hbb] at HU HB
        clear hbb
        go_wp2_with (go_at_call 38; refine (HB.out _).mono ?_; rintro e w' ⟨rfl, rfl⟩)
        go_ret
        exact ⟨ret_i (by rw [HF.out, ← HC.out, HU.out]; rfl), bel_iter hb1 _ _⟩
      | false =>
        rw [hbb] at HU HB
        clear hbb
        go_wp2_with (go_at_call 38; refine (HB.out _).mono ?_; rintro e w' ⟨rfl, rfl⟩)
        go_roundw
        case rel => exact ⟨pos + (Utf8.decode s pos).2, b, rfl, Lib.hid (by rw [← HC.out, HU.out]; rfl), by omega⟩
        case measure =>
          simp
          omega
    · have hnx : ∀ ty, (Instr.next (.pointer (some ⟨w1.heap.size, 0, none⟩)) true ty).run Tryd.prog (w1.iter s pos) = _ := fun ty => run_next_end w1 s pos ty hp
      go_wp2
      go_ret
      exact ⟨ret_i (by rw [HF.out, ← HC.out, brd_end s b pos hp]; rfl), bel_iter hb1 _ _⟩
/-! ### the reference's Component: by its bytes -/
def brdB (s : ByteArray) : Nat → Nat → Bool
  | 0, _ => false
  | k + 1, i => if i < s.size then (barB (byt s i) || brdB s k (i + 1)) else false
theorem brdB_end (s : ByteArray) (b i : Nat) (h : ¬ i < s.size) : brdB s b i = false := by
  cases b with
  | zero => rfl
  | succ b => simp [brdB, h]
end Nm
end Go.Proofs.YtpkeabggkeecaaaDoor
