/- Layer 5 (names), walks over lists of strings: twin, same, Path (package and reference), Less (package and reference). Conditions: the lists are read at their addresses, lengths within the form's reach. -/
import Derived.Test.YtpkeabggkeecaaaNd
set_option linter.unusedVariables false
set_option linter.unusedSimpArgs false
namespace Go.Proofs.Ytpkeabggkeecaaa
open Go.RowKit Go.Proofs.YtpkeabggkeecaaaW.PrintWords
theorem infoStr : (Try.prog.info? 9).map (fun i => (i.zero, i.size, i.bytes)) = some (some (.string ⟨#[]⟩), 1, 16) := by kernel_rfl
namespace Nm
open Wd
/-- A slice of strings that a call made. -/
def MadeStrs (w : World) (xs : List ByteArray) (e : Ending) (w' : World) : Prop := ∃ v, e = .returned v ∧ Kd.R Kd.string 9 w' w.heap.size (fun _ => True) v xs ∧ Below w.heap.size w w'
/-- Are the two lists the same? -/
def sameB : List ByteArray → List ByteArray → Bool
  | [], [] => true
  | x :: xs, y :: ys => if x.toList == y.toList then sameB xs ys else false
  | _, _ => false
theorem sameB_refl : ∀ xs, sameB xs xs = true
  | [] => rfl
  | x :: xs => by simp [sameB, sameB_refl xs]
theorem sameB_len : ∀ xs ys, sameB xs ys = true → xs.length = ys.length
  | [], [], _ => rfl
  | [], _ :: _, h => by simp [sameB] at h
  | _ :: _, [], h => by simp [sameB] at h
  | x :: xs, y :: ys, h => by
    simp only [sameB] at h
    split at h
    · simp [sameB_len xs ys h]
    · cases h
theorem sameB_ne (xs ys : List ByteArray) (h : xs.length ≠ ys.length) : sameB xs ys = false := by
  cases e : sameB xs ys with
  | true => exact absurd (sameB_len _ _ e) h
  | false => rfl
set_option maxRecDepth 100000 in
theorem same_q (A0 : Option Addr) (c0 : Nat) (xs : List ByteArray) (A1 : Option Addr) (c1 : Nat) (ys : List ByteArray) (w : World) (hr0 : Kd.string.C w A0 xs.length xs) (hr1 : Kd.string.C w A1 ys.length ys) (hl : xs.length ≤ 8796093022207) :
    Calls Try.prog 18 #[.slice A0 xs.length c0, .slice A1 ys.length c1] w fun e w' => e = .returned (.bool (sameB xs ys)) ∧ ∃ m, w' = w.drewN m := by
  have HR0 := Aside0.mk hr0
  have HR1 := Aside0.mk hr1
  clear hr0 hr1
  by_cases hne : xs.length = ys.length
  · obtain ⟨hn1, hn2, hn3, hn4⟩ := len_eq hne
    have HN := Lib.hid hne
    have hl0 : ys.length ≤ 8796093022207 := by omega
    have hlb : ys.length ≤ xs.length ∧ xs.length ≤ ys.length := by omega
    have hlb1 := hlb.1
    have hlb2 := hlb.2
    clear hne hlb
    go_enter Try.func18, Try.ntmps18
    go_wp2
    repeat (go_quiet (fail); try go_wp2)
    go_loopw [5] (fun i wr => ∃ k m : Nat, k ≤ xs.length ∧ i = .int .i64 k ∧ Hid (sameB (xs.drop k) (ys.drop k) = sameB xs ys) ∧ wr = w.drewN m) (fun i _ => xs.length - (intOf i).toNat)
    case atStart => exact ⟨0, 0, by omega, rfl, Lib.hid rfl, rfl⟩
    case round =>
      obtain ⟨k, m, hk, rfl, HC, rfl⟩ := hrel
      by_cases hlt : k < xs.length
      · obtain ⟨ad, e0, hx⟩ := at_str HR0.out k hlt
        obtain ⟨bd, e1, hy⟩ := at_str HR1.out k (by omega)
        cases e0
        cases e1
        have hlt2 : k < ys.length := by omega
        have HU : Hid (sameB (xs.drop k) (ys.drop k) = if (sx xs k).toList == (sx ys k).toList then sameB (xs.drop (k + 1)) (ys.drop (k + 1)) else false) :=
          Lib.hid (by rw [sx_drop xs k hlt, sx_drop ys k hlt2]; rfl)
        cases heq : ((sx xs k).toList == (sx ys k).toList) with
        | true =>
          have heq2 : ((sx xs k).toList != (sx ys k).toList) = false := by simp [bne, heq]
          rw [heq] at HU
          go_wp2_with fail
          go_quiet (fail)
          go_wp2
          go_roundw
          case rel => exact ⟨k + 1, m + nq, by omega, by go_num, Lib.hid (by rw [← HC.out, HU.out]; rfl), by first | rfl | rw [World.drewN_drewN]⟩
          case measure => simp [intOf]; omega
        | false =>
          have heq2 : ((sx xs k).toList != (sx ys k).toList) = true := by simp [bne, heq]
          rw [heq] at HU
          go_wp2_with fail
          go_quiet (fail)
          go_wp2
          go_ret
          exact ⟨ret_b (by rw [← HC.out, HU.out]; rfl), m + nq, by first | rfl | rw [World.drewN_drewN]⟩
      · go_wp2
        go_ret
        exact ⟨ret_b (by rw [← HC.out, List.drop_of_length_le (by omega), List.drop_of_length_le (by omega)]; rfl), m, rfl⟩
  · obtain ⟨hn1, hn2, hn3, hn4⟩ := len_ne hne
    have HF := Lib.hid (sameB_ne xs ys hne)
    clear hne
    go_enter Try.func18, Try.ntmps18
    go_wp2
    go_ret
    exact ⟨ret_b (by rw [HF.out]), 0, rfl⟩
theorem same_any (A0 : Option Addr) (c0 : Nat) (xs : List ByteArray) (A1 : Option Addr) (c1 : Nat) (ys : List ByteArray) (w : World) (hr0 : Kd.string.C w A0 xs.length xs) (hr1 : Kd.string.C w A1 ys.length ys) (hl : xs.length ≤ 8796093022207) :
    Calls Try.prog 18 #[.slice A0 xs.length c0, .slice A1 ys.length c1] w fun e w' => e = .returned (.bool (sameB xs ys)) ∧ Below w.heap.size w w' :=
  (same_q A0 c0 xs A1 c1 ys w hr0 hr1 hl).mono fun _ _ ⟨he, m, hm⟩ => ⟨he, by rw [hm]; exact below_drewN (Below.refl _ _) m⟩
end Nm
end Go.Proofs.Ytpkeabggkeecaaa
