/- Layer 5, walks: sameInts: two lists of numbers that are one. -/
import Derived.Test.YtpkeabggkeecaaaOf
import Derived.Test.YtpkeabggkeecaaaNh
set_option linter.unusedVariables false
set_option linter.unusedSimpArgs false
namespace Go.Proofs.Ytpkeabggkeecaaa
open Go.RowKit Go.Proofs.YtpkeabggkeecaaaW.PrintWords
namespace Nm
open Wd
set_option maxRecDepth 100000 in
theorem sameInts_any (A0 : Option Addr) (c0 : Nat) (A1 : Option Addr) (c1 : Nat) (xs : List Int) (w : World) (hr0 : (Kd.int .i64).C w A0 xs.length xs) (hr1 : (Kd.int .i64).C w A1 xs.length xs) (hl : xs.length ≤ 8796093022207) :
    Calls Try.prog 7 #[.slice A0 xs.length c0, .slice A1 xs.length c1] w fun e w' => e = .returned (.bool true) ∧ ∃ m, w' = w.drewN m := by
  have HR0 := Aside0.mk hr0
  have HR1 := Aside0.mk hr1
  clear hr0 hr1
  go_enter Try.func7, Try.ntmps7
  go_wp2
  go_loopw [5] (fun i wr => ∃ k m : Nat, k ≤ xs.length ∧ i = .int .i64 k ∧ wr = w.drewN m) (fun i _ => xs.length - (intOf i).toNat)
  case atStart => exact ⟨0, 0, by omega, rfl, rfl⟩
  case round =>
    obtain ⟨k, m, hk, rfl, rfl⟩ := hrel
    by_cases hlt : k < xs.length
    · obtain ⟨ad, e0, hx⟩ := Kd.at_int HR0.out (k : Int) (by omega) (by omega)
      obtain ⟨bd, e1, hy⟩ := Kd.at_int HR1.out (k : Int) (by omega) (by omega)
      cases e0
      cases e1
      rw [Int.toNat_natCast] at hx hy
      generalize rd xs (k : Int) = z at *
      have T1 : (z != z) = false := by simp
      go_wp2
      go_quiet (fail)
      go_wp2
      go_roundw
      case rel => exact ⟨k + 1, m + nq, by omega, by go_num, by first | rfl | rw [World.drewN_drewN]⟩
      case measure => simp [intOf]; omega
    · go_wp2
      go_ret
      exact ⟨rfl, m, rfl⟩
end Nm
end Go.Proofs.Ytpkeabggkeecaaa
