/- Layer 5 (names): twin, the copy of a list of strings. -/
import Derived.Test.YtpkeabggkeecaaaNe
set_option linter.unusedVariables false
set_option linter.unusedSimpArgs false
namespace Go.Proofs.Ytpkeabggkeecaaa
open Go.RowKit Go.Proofs.YtpkeabggkeecaaaW.PrintWords
namespace Nm
open Wd
set_option maxRecDepth 100000 in
theorem twin_any (A0 : Option Addr) (c0 : Nat) (xs : List ByteArray) (w : World) (hr : Kd.string.C w A0 xs.length xs) (hc : xs.length ≤ c0) (hl : xs.length ≤ 8796093022207) :
    Calls Try.prog 9 #[.slice A0 xs.length c0] w (MadeStrs w xs) := by
  have HR := Aside0.mk hr
  clear hr hc
  go_enter Try.func9, Try.ntmps9
  go_wp2
  go_loopw [3, 4] (fun q i wr => ∃ k : Nat, k ≤ xs.length ∧ i = .int .i64 k ∧ Aside0 (Kd.R Kd.string 9 wr w.heap.size (fun _ => True) q (xs.take k)) ∧ Aside0 (Below w.heap.size w wr)) (fun _ i _ => xs.length - (intOf i).toNat)
  case atStart => exact ⟨0, by omega, rfl, ⟨Kd.R_nil _ _ _ _ _⟩, ⟨Below.refl _ _⟩⟩
  case round =>
    obtain ⟨k, hk, rfl, HO, HB⟩ := hrel
    by_cases hlt : k < xs.length
    · obtain ⟨ad, e0, hx⟩ := at_str HR.out k hlt
      cases e0
      replace hx := cell_stay HB.out hx
      have hz : (xs.take k).length < 8796093022207 := by rw [List.length_take]; omega
      have HT := Lib.hid (sx_take xs k hlt)
      go_wp2_with (at_builtin; refine Kd.R_append Kd.string (w0 := w) w.heap.size rfl (.tmp 11) (.tmp 16) 31 9 (.string ⟨#[]⟩) 16 rfl Try.underlying31 infoStr rfl (by decide) (by omega) u3 (xs.take k) (sx xs k) [.string (sx xs k)] (fun _ => True) (fun _ => False) rfl rfl ?aP (fun _ h => h.elim) ?aF ?aO ?aB ?aS ?aL ?_; (case aP => exact rfl); (case aB => exact HB.out); (case aF => exact (fun _ _ => trivial)); (case aO => exact HO.out); (case aS => exact below_size HB.out); (case aL => omega); intro q1 wq ho hb hg hat; rw [← HT.out] at ho; have HO1 := Aside0.mk ho; have HB1 := Aside0.mk hb; clear ho hb hg hat HB HO)
      go_roundw
      case rel => exact ⟨k + 1, by omega, by go_num, HO1, HB1⟩
      case measure => simp [intOf]; omega
    · go_wp2
      go_ret
      obtain rfl : k = xs.length := by omega
      rw [List.take_length] at HO
      exact ⟨_, rfl, HO.out, HB.out⟩
end Nm
end Go.Proofs.Ytpkeabggkeecaaa
