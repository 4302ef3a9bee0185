/- Layer 5, the laws without the document's answer: num, awake. -/
import Derived.Test.YtpkeabggkeecaaaDoorNg
import Derived.Test.YtpkeabggkeecaaaDoorNl
import Derived.Test.YtpkeabggkeecaaaDoorNs
set_option linter.unusedVariables false
set_option linter.unusedSimpArgs false
namespace Go.Proofs.YtpkeabggkeecaaaDoor
open Go.RowKit Go.Proofs.YtpkeabggkeecaaaDoorW.PrintWords
namespace Nm
open Wd
theorem num_any (a : Int) (w : World) : Calls Tryd.prog 11 #[.int .i64 a] w fun e w' => e = .returned (.int .i64 a) ∧ w = w' := by
  go_enter Tryd.func11, Tryd.ntmps11
  go_wp2
  go_ret
  exact ⟨rfl, rfl⟩
def sA : ByteArray := ⟨#[97]⟩
def sB : ByteArray := ⟨#[98]⟩
def sBC : ByteArray := ⟨#[98, 32, 99]⟩
def sABC : ByteArray := ⟨#[97, 47, 98, 32, 99]⟩
theorem aw_join : JoinV [sA, sBC] = .tuple #[.string sABC, .int .i64 0] := by kernel_rfl
theorem aw_path : path (splitS sABC) = 0 := by kernel_rfl
theorem aw_split : splitS sABC = [sA, sBC] := by kernel_rfl
theorem aw_list : (sABC.toList == [97, 47, 98, 32, 99]) = true := by kernel_rfl
theorem aw_less : lessL [sA, sBC] [sB] = true := by kernel_rfl
set_option maxRecDepth 100000 in
theorem awake_any (w : World) (hm : MaxOk w) : Calls Tryd.prog 9 #[] w fun e w' => e = .returned (.bool true) ∧ Below w.heap.size w w' := by
  have HM := Lib.hid hm
  clear hm
  have hL : splitL sABC = [sA, sBC] := by unfold splitL; rw [if_pos aw_path, aw_split]
  have HS : Hid (∀ w : World, MaxOk w → Calls Tryd.prog 12 #[.string sABC] w fun e w' => ∃ A c, e = .returned (.tuple #[.slice A 2 c, .int .i64 0]) ∧ 2 ≤ c ∧ Kd.string.C w' A 2 [sA, sBC] ∧ Below w.heap.size w w') := Lib.hid fun w h => by
    have := split_any sABC w (by decide) h
    unfold SplitR at this
    rw [hL, aw_path] at this
    exact this
  have HJ : Hid (∀ A c (w : World), Kd.string.C w A 2 [sA, sBC] → 2 ≤ c → Calls Tryd.prog 10 #[.slice A 2 c] w fun e w' => e = .returned (.tuple #[.string sABC, .int .i64 0]) ∧ Below w.heap.size w w') := Lib.hid fun A c w h h2 => by
    rw [← aw_join]; exact join_any A c [sA, sBC] w h h2
  have HE : Hid (∀ A c B d (w : World), Kd.string.C w A 2 [sA, sBC] → Kd.string.C w B 1 [sB] → Calls Tryd.prog 16 #[.slice A 2 c, .slice B 1 d] w fun e w' => e = .returned (.bool true) ∧ w = w') := Lib.hid fun A c B d w h h2 => by
    rw [← aw_less]; exact less_any A c [sA, sBC] B d [sB] w h h2 (by decide) (by decide)
  have HQ : Hid (∀ A c B d (w : World), Kd.string.C w A 2 [sA, sBC] → Kd.string.C w B 2 [sA, sBC] → Calls Tryd.prog 13 #[.slice A 2 c, .slice B 2 d] w fun e w' => e = .returned (.bool true) ∧ Below w.heap.size w w') := Lib.hid fun A c B d w h h2 => by
    rw [← sameB_refl [sA, sBC]]; exact same_any A c [sA, sBC] B d [sA, sBC] w h h2 (by decide)
  have H2 : Hid (∀ w : World, Kd.string.C (w.alloc (.cells #[.string sA, .string sBC] 9)) (some ⟨w.heap.size, 0, none⟩) 2 [sA, sBC]) := Lib.hid fun w => laid_strs w [sA, sBC] (by decide)
  have H1 : Hid (∀ w : World, Kd.string.C (w.alloc (.cells #[.string sB] 9)) (some ⟨w.heap.size, 0, none⟩) 1 [sB]) := Lib.hid fun w => laid_strs w [sB] (by decide)
  clear hL
  go_enter Tryd.func9, Tryd.ntmps9
  go_wp2_with fail
  go_at_call 10
  refine (HJ.out _ _ _ (H2.out _) (Nat.le_refl _)).mono ?_
  rintro e w1 ⟨rfl, hb1⟩
  replace hb1 : Below w.heap.size w w1 := below_step (below_alloc (Below.refl _ _) _) hb1
  go_wp2_with fail
  go_at_call 12
  refine (HS.out _ (HM.out.below hb1)).mono ?_
  rintro e w2 ⟨A, c, rfl, hc, hr, hb2⟩
  have HR := Aside0.mk hr
  clear hr
  replace hb2 := below_step hb1 hb2
  go_wp2_with fail
  go_at_call 16
  refine (HE.out _ _ _ _ _ (Kd.C_alloc HR.out _) (H1.out _)).mono ?_
  rintro e w3 ⟨rfl, rfl⟩
  have HB3 : Aside0 (Below w.heap.size w (w2.alloc (.cells #[.string sB] 9))) := ⟨below_alloc hb2 _⟩
  have HR3 : Aside0 (Kd.string.C (w2.alloc (.cells #[.string sB] 9)) A 2 [sA, sBC]) := ⟨Kd.C_alloc HR.out _⟩
  clear hb2 hb1 HR
  generalize w2.alloc (.cells #[.string sB] 9) = w3 at *
  have hab : (sABC.toList == [97, 47, 98, 32, 99]) = true := aw_list
  go_wp2_with (first | (go_at_call 11; refine (num_any _ _).mono ?_; rintro e w4 ⟨rfl, rfl⟩) | (go_at_call 13; refine (HQ.out _ _ _ _ _ (Kd.C_alloc HR3.out _) (H2.out _)).mono ?_; rintro e w5 ⟨rfl, hb5⟩))
  go_ret
  exact ⟨rfl, below_step (below_alloc HB3.out _) hb5⟩
end Nm
end Go.Proofs.YtpkeabggkeecaaaDoor
