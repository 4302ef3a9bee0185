/- Layer 5 (names), walks over lists of strings: Path and Less of the package and of its reference, each by one plain function. Conditions: the lists are read at their addresses, lengths within the form's reach. -/
import Derived.Test.YtpkeabggkeecaaaNe
import Derived.Sort.Walk0
import Derived.WalkLawsBesides
set_option linter.unusedVariables false
set_option linter.unusedSimpArgs false
namespace Go.Proofs.Ytpkeabggkeecaaa
open Go.RowKit Go.Proofs.YtpkeabggkeecaaaW.PrintWords
namespace Nm
open Wd
def firstErr : List ByteArray → Int
  | [] => 0
  | x :: r => if comp x = 0 then firstErr r else comp x
/-- What Path answers. -/
def path (xs : List ByteArray) : Int := if xs.length = 0 then 50 else if 16 < xs.length then 55 else firstErr xs
/-- Each string within the form's reach. -/
def Short (xs : List ByteArray) : Prop := ∀ s ∈ xs, s.size ≤ 140737488351232
set_option maxRecDepth 100000 in
theorem path_any (A0 : Option Addr) (c0 : Nat) (xs : List ByteArray) (w : World) (hr : Kd.string.C w A0 xs.length xs) :
    Calls Try.prog 10 #[.slice A0 xs.length c0] w fun e w' => e = .returned (.int .i64 (path xs)) ∧ Below w.heap.size w w' := by
  have HR := Aside0.mk hr
  clear hr
  by_cases h0 : xs.length = 0
  · have hn1 : ((xs.length : Int) == 0) = true := by simp [h0]
    have HF : Hid (path xs = 50) := Lib.hid (by simp [path, h0])
    clear h0
    go_enter Try.func10, Try.ntmps10
    go_wp2
    all_goals first | omega | skip
    go_ret
    exact ⟨ret_i (by rw [HF.out]), Below.refl _ _⟩
  have hn1 : ((xs.length : Int) == 0) = false := by rw [beq_eq_false_iff_ne]; omega
  by_cases h1 : 16 < xs.length
  · have HF : Hid (path xs = 55) := Lib.hid (by simp only [path, if_neg h0, if_pos h1])
    go_enter Try.func10, Try.ntmps10
    go_wp2
    all_goals first | omega | skip
    go_ret
    exact ⟨ret_i (by rw [HF.out]), Below.refl _ _⟩
  have hd : decide ((16 : Int) < (xs.length : Int)) = false := decide_eq_false (by omega)
  have HF : Hid (path xs = firstErr xs) := Lib.hid (by simp only [path, if_neg h0, if_neg h1])
  go_enter Try.func10, Try.ntmps10
  go_wp2
  go_loopw [14] (fun i wr => ∃ k : Nat, k ≤ xs.length ∧ i = .int .i64 k ∧ Hid (firstErr (xs.drop k) = firstErr xs) ∧ Aside0 (Below w.heap.size w wr)) (fun i _ => xs.length - (intOf i).toNat)
  case atStart => exact ⟨0, by omega, rfl, Lib.hid rfl, ⟨Below.refl _ _⟩⟩
  case round =>
    obtain ⟨k, hk, rfl, HC, HB⟩ := hrel
    by_cases hlt : k < xs.length
    · obtain ⟨ad, e0, hx⟩ := at_str HR.out k hlt
      cases e0
      replace hx := cell_stay HB.out hx
      have HU : Hid (firstErr (xs.drop k) = if comp (sx xs k) = 0 then firstErr (xs.drop (k + 1)) else comp (sx xs k)) := Lib.hid (by rw [sx_drop xs k hlt]; rfl)
      generalize hcm : comp (sx xs k) = c at HU
      have HCA : Hid (∀ w : World, Calls Try.prog 19 #[.string (sx xs k)] w fun e w' => e = .returned (.int .i64 c) ∧ Below w.heap.size w w') := Lib.hid fun w => by rw [← hcm]; exact comp_any _ w
      clear hcm
      by_cases hc : c = 0
      · rw [if_pos hc] at HU
        have hc1 : (c == 0) = true := by simp [hc]
        have hc2 : (c != 0) = false := by simp [hc]
        clear hc
        go_wp2_with (go_at_call 19; refine (HCA.out _).mono ?_; rintro e w1 ⟨rfl, hb1⟩)
        go_roundw
        case rel => exact ⟨k + 1, by omega, by go_num, Lib.hid (by rw [← HC.out, HU.out]), ⟨below_step HB.out hb1⟩⟩
        case measure => simp [intOf]; omega
      · rw [if_neg hc] at HU
        have hc1 : (c == 0) = false := by simp [hc]
        have hc2 : (c != 0) = true := by simp [hc]
        clear hc
        go_wp2_with (go_at_call 19; refine (HCA.out _).mono ?_; rintro e w1 ⟨rfl, hb1⟩)
        go_ret
        exact ⟨ret_i (by rw [HF.out, ← HC.out, HU.out]), below_step HB.out hb1⟩
    · go_wp2
      go_ret
      exact ⟨ret_i (by rw [HF.out, ← HC.out, List.drop_of_length_le (by omega)]; rfl), HB.out⟩
set_option maxRecDepth 100000 in
theorem refPath_any (A0 : Option Addr) (c0 : Nat) (xs : List ByteArray) (w : World) (hr : Kd.string.C w A0 xs.length xs) (hs : Short xs) :
    Calls Try.prog 15 #[.slice A0 xs.length c0] w fun e w' => e = .returned (.int .i64 (path xs)) ∧ Below w.heap.size w w' := by
  have HR := Aside0.mk hr
  have HS := Aside0.mk hs
  clear hr hs
  by_cases h0 : xs.length = 0
  · have hn1 : ((xs.length : Int) == 0) = true := by simp [h0]
    have HF : Hid (path xs = 50) := Lib.hid (by simp [path, h0])
    clear h0
    go_enter Try.func15, Try.ntmps15
    go_wp2
    all_goals first | omega | skip
    go_ret
    exact ⟨ret_i (by rw [HF.out]), Below.refl _ _⟩
  have hn1 : ((xs.length : Int) == 0) = false := by rw [beq_eq_false_iff_ne]; omega
  by_cases h1 : 16 < xs.length
  · have HF : Hid (path xs = 55) := Lib.hid (by simp only [path, if_neg h0, if_pos h1])
    go_enter Try.func15, Try.ntmps15
    go_wp2
    all_goals first | omega | skip
    go_ret
    exact ⟨ret_i (by rw [HF.out]), Below.refl _ _⟩
  have hd : decide ((16 : Int) < (xs.length : Int)) = false := decide_eq_false (by omega)
  have HF : Hid (path xs = firstErr xs) := Lib.hid (by simp only [path, if_neg h0, if_neg h1])
  go_enter Try.func15, Try.ntmps15
  go_wp2
  go_loopw [3] (fun i wr => ∃ k : Nat, k ≤ xs.length ∧ i = .int .i64 k ∧ Hid (firstErr (xs.drop k) = firstErr xs) ∧ Aside0 (Below w.heap.size w wr)) (fun i _ => xs.length - (intOf i).toNat)
  case atStart => exact ⟨0, by omega, rfl, Lib.hid rfl, ⟨Below.refl _ _⟩⟩
  case round =>
    obtain ⟨k, hk, rfl, HC, HB⟩ := hrel
    by_cases hlt : k < xs.length
    · obtain ⟨ad, e0, hx⟩ := at_str HR.out k hlt
      cases e0
      replace hx := cell_stay HB.out hx
      have HU : Hid (firstErr (xs.drop k) = if comp (sx xs k) = 0 then firstErr (xs.drop (k + 1)) else comp (sx xs k)) := Lib.hid (by rw [sx_drop xs k hlt]; rfl)
      generalize hcm : comp (sx xs k) = c at HU
      have HCA : Hid (∀ w : World, Calls Try.prog 25 #[.string (sx xs k)] w fun e w' => e = .returned (.int .i64 c) ∧ Below w.heap.size w w') := Lib.hid fun w => by rw [← hcm]; exact refComp_any _ w (HS.out _ (sx_mem xs k hlt))
      clear hcm
      by_cases hc : c = 0
      · rw [if_pos hc] at HU
        have hc1 : (c == 0) = true := by simp [hc]
        have hc2 : (c != 0) = false := by simp [hc]
        clear hc
        go_wp2_with (go_at_call 25; refine (HCA.out _).mono ?_; rintro e w1 ⟨rfl, hb1⟩)
        go_roundw
        case rel => exact ⟨k + 1, by omega, by go_num, Lib.hid (by rw [← HC.out, HU.out]), ⟨below_step HB.out hb1⟩⟩
        case measure => simp [intOf]; omega
      · rw [if_neg hc] at HU
        have hc1 : (c == 0) = false := by simp [hc]
        have hc2 : (c != 0) = true := by simp [hc]
        clear hc
        go_wp2_with (go_at_call 25; refine (HCA.out _).mono ?_; rintro e w1 ⟨rfl, hb1⟩)
        go_ret
        exact ⟨ret_i (by rw [HF.out, ← HC.out, HU.out]), below_step HB.out hb1⟩
    · go_wp2
      go_ret
      exact ⟨ret_i (by rw [HF.out, ← HC.out, List.drop_of_length_le (by omega)]; rfl), HB.out⟩
end Nm
end Go.Proofs.Ytpkeabggkeecaaa
