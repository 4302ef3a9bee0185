/- Layer 5 (names), walks: starts, both and Clash of the reference. Conditions: the lists are read at their addresses, lengths within the form's reach. -/
import Derived.Test.YtpkeabggkeecaaaNh
set_option linter.unusedVariables false
set_option linter.unusedSimpArgs false
namespace Go.Proofs.Ytpkeabggkeecaaa
open Go.RowKit Go.Proofs.YtpkeabggkeecaaaW.PrintWords
namespace Nm
open Wd
/-- Does the second list begin with all of the first? -/
def stB : List ByteArray → List ByteArray → Bool
  | [], _ => true
  | _ :: _, [] => false
  | x :: xs, y :: ys => if x.toList == y.toList then stB xs ys else false
theorem stB_len : ∀ xs ys, stB xs ys = true → xs.length ≤ ys.length
  | [], _, _ => by simp
  | _ :: _, [], h => by simp [stB] at h
  | x :: xs, y :: ys, h => by
    simp only [stB] at h
    split at h
    · have := stB_len xs ys h; simp; omega
    · cases h
theorem stB_long (xs ys : List ByteArray) (h : ys.length < xs.length) : stB xs ys = false := by
  cases e : stB xs ys with
  | true => have := stB_len _ _ e; omega
  | false => rfl
/-- How two paths clash: 56: they are the same; 57: one is a folder of the other; 0: not. -/
def bothV (a b : List ByteArray) : Int := if stB a b = true ∧ stB b a = true then 56 else if stB a b = true ∨ stB b a = true then 57 else 0
set_option maxRecDepth 100000 in
theorem starts_q (A0 : Option Addr) (c0 : Nat) (xs : List ByteArray) (A1 : Option Addr) (c1 : Nat) (ys : List ByteArray) (w : World) (hr0 : Kd.string.C w A0 xs.length xs) (hr1 : Kd.string.C w A1 ys.length ys) (hl : xs.length ≤ 8796093022207) (hl1 : ys.length ≤ 8796093022207) :
    Calls Try.prog 41 #[.slice A0 xs.length c0, .slice A1 ys.length c1] w fun e w' => e = .returned (.bool (stB xs ys)) ∧ ∃ m, w' = w.drewN m := by
  have HR0 := Aside0.mk hr0
  have HR1 := Aside0.mk hr1
  clear hr0 hr1
  by_cases hle : ys.length < xs.length
  · have HF := Lib.hid (stB_long xs ys hle)
    go_enter Try.func41, Try.ntmps41
    go_wp2
    go_ret
    exact ⟨ret_b (by rw [HF.out]), 0, rfl⟩
  · have hd : decide ((ys.length : Int) < (xs.length : Int)) = false := decide_eq_false (by omega)
    have hd' : decide (ys.length < xs.length) = false := decide_eq_false hle
    go_enter Try.func41, Try.ntmps41
    go_wp2
    go_loopw [5] (fun i wr => ∃ k m : Nat, k ≤ xs.length ∧ i = .int .i64 k ∧ Hid (stB (xs.drop k) (ys.drop k) = stB xs ys) ∧ wr = w.drewN m) (fun i _ => xs.length - (intOf i).toNat)
    case atStart => exact ⟨0, 0, by omega, rfl, Lib.hid rfl, rfl⟩
    case round =>
      obtain ⟨k, m, hk, rfl, HC, rfl⟩ := hrel
      by_cases hlt : k < xs.length
      · have hlt2 : k < ys.length := by omega
        obtain ⟨ad, e0, hx⟩ := at_str HR0.out k hlt
        obtain ⟨bd, e1, hy⟩ := at_str HR1.out k hlt2
        cases e0
        cases e1
        have HU : Hid (stB (xs.drop k) (ys.drop k) = if (sx xs k).toList == (sx ys k).toList then stB (xs.drop (k + 1)) (ys.drop (k + 1)) else false) :=
          Lib.hid (by rw [sx_drop xs k hlt, sx_drop ys k hlt2]; rfl)
        cases heq : ((sx xs k).toList == (sx ys k).toList) with
        | true =>
          have heq2 : ((sx xs k).toList != (sx ys k).toList) = false := by simp [bne, heq]
          rw [heq] at HU
          go_wp2_with fail
          go_quiet (fail)
          go_wp2
          go_roundw
          case rel => exact ⟨k + 1, m + nq, by omega, by go_num, Lib.hid (by rw [← HC.out, HU.out]; rfl), by first | rfl | rw [World.drewN_drewN]⟩
          case measure => simp [intOf]; omega
        | false =>
          have heq2 : ((sx xs k).toList != (sx ys k).toList) = true := by simp [bne, heq]
          rw [heq] at HU
          go_wp2_with fail
          go_quiet (fail)
          go_wp2
          go_ret
          exact ⟨ret_b (by rw [← HC.out, HU.out]; rfl), m + nq, by first | rfl | rw [World.drewN_drewN]⟩
      · go_wp2
        go_ret
        exact ⟨ret_b (by rw [← HC.out, List.drop_of_length_le (by omega)]; rfl), m, rfl⟩
theorem both_q (A0 : Option Addr) (c0 : Nat) (xs : List ByteArray) (A1 : Option Addr) (c1 : Nat) (ys : List ByteArray) (w : World) (hr0 : Kd.string.C w A0 xs.length xs) (hr1 : Kd.string.C w A1 ys.length ys) (hl : xs.length ≤ 8796093022207) (hl1 : ys.length ≤ 8796093022207) :
    Calls Try.prog 26 #[.slice A0 xs.length c0, .slice A1 ys.length c1] w fun e w' => e = .returned (.int .i64 (bothV xs ys)) ∧ ∃ m, w' = w.drewN m := by
  have H1 : Hid (Calls Try.prog 41 #[.slice A0 xs.length c0, .slice A1 ys.length c1] w fun e w' => e = .returned (.bool (stB xs ys)) ∧ ∃ m, w' = w.drewN m) := Lib.hid (starts_q _ _ _ _ _ _ _ hr0 hr1 hl hl1)
  have H2 : Hid (∀ m, Calls Try.prog 41 #[.slice A1 ys.length c1, .slice A0 xs.length c0] (w.drewN m) fun e w' => e = .returned (.bool (stB ys xs)) ∧ ∃ q, w' = (w.drewN m).drewN q) := Lib.hid fun m => starts_q _ _ _ _ _ _ _ (Kd.C_drewN hr1 _) (Kd.C_drewN hr0 _) hl1 hl
  clear hr0 hr1
  cases h1 : stB xs ys with
  | true =>
    cases h2 : stB ys xs with
    | true =>
      have HF : Hid (bothV xs ys = 56) := Lib.hid (by simp [bothV, h1, h2])
      rw [h1] at H1
      rw [h2] at H2
      clear h1 h2
      go_enter Try.func26, Try.ntmps26
      go_wp2_with fail
      go_at_call 41
      refine H1.out.mono ?_
      rintro e w1 ⟨rfl, m, rfl⟩
      go_wp2_with fail
      go_at_call 41
      refine (H2.out _).mono ?_
      rintro e w1 ⟨rfl, q, rfl⟩
      go_wp2
      go_ret
      exact ⟨ret_i (by rw [HF.out]), m + q, by first | rfl | rw [World.drewN_drewN]⟩
    | false =>
      have HF : Hid (bothV xs ys = 57) := Lib.hid (by simp [bothV, h1, h2])
      rw [h1] at H1
      rw [h2] at H2
      clear h1 h2
      go_enter Try.func26, Try.ntmps26
      go_wp2_with fail
      go_at_call 41
      refine H1.out.mono ?_
      rintro e w1 ⟨rfl, m, rfl⟩
      go_wp2_with fail
      go_at_call 41
      refine (H2.out _).mono ?_
      rintro e w1 ⟨rfl, q, rfl⟩
      go_wp2
      go_ret
      exact ⟨ret_i (by rw [HF.out]), m + q, by first | rfl | rw [World.drewN_drewN]⟩
  | false =>
    cases h2 : stB ys xs with
    | true =>
      have HF : Hid (bothV xs ys = 57) := Lib.hid (by simp [bothV, h1, h2])
      rw [h1] at H1
      rw [h2] at H2
      clear h1 h2
      go_enter Try.func26, Try.ntmps26
      go_wp2_with fail
      go_at_call 41
      refine H1.out.mono ?_
      rintro e w1 ⟨rfl, m, rfl⟩
      go_wp2_with fail
      go_at_call 41
      refine (H2.out _).mono ?_
      rintro e w1 ⟨rfl, q, rfl⟩
      go_wp2
      go_ret
      exact ⟨ret_i (by rw [HF.out]), m + q, by first | rfl | rw [World.drewN_drewN]⟩
    | false =>
      have HF : Hid (bothV xs ys = 0) := Lib.hid (by simp [bothV, h1, h2])
      rw [h1] at H1
      rw [h2] at H2
      clear h1 h2
      go_enter Try.func26, Try.ntmps26
      go_wp2_with fail
      go_at_call 41
      refine H1.out.mono ?_
      rintro e w1 ⟨rfl, m, rfl⟩
      go_wp2_with fail
      go_at_call 41
      refine (H2.out _).mono ?_
      rintro e w1 ⟨rfl, q, rfl⟩
      go_wp2
      go_ret
      exact ⟨ret_i (by rw [HF.out]), m + q, by first | rfl | rw [World.drewN_drewN]⟩
theorem take_drop (P : List (List ByteArray)) (q k : Nat) (h : q < k) (hk : k ≤ P.length) : (P.take k).drop q = lx P q :: (P.take k).drop (q + 1) := by
  rw [nth_drop [] (P.take k) q (by rw [List.length_take]; omega)]
  congr 1
  simp only [nth, lx, List.getD_eq_getElem?_getD, List.getElem?_take]
  rw [if_pos h]
/-- The first of the lists with which p clashes (they are counted from i on), and how. -/
def find1 (p : List ByteArray) : List (List ByteArray) → Nat → Option (Nat × Int)
  | [], _ => none
  | q :: r, i => if bothV q p = 0 then find1 p r (i + 1) else some (i, bothV q p)
def clashFrom (P : List (List ByteArray)) : Nat → Nat → Int × Int × Int
  | 0, _ => (0, 0, 0)
  | b + 1, j => if j < P.length then (match find1 (lx P j) (P.take j) 0 with | some (i, e) => ((i : Int), (j : Int), e) | none => clashFrom P b (j + 1)) else (0, 0, 0)
theorem clashFrom_end (P : List (List ByteArray)) (b j : Nat) (h : ¬ j < P.length) : clashFrom P b j = (0, 0, 0) := by
  cases b with
  | zero => rfl
  | succ b => simp [clashFrom, h]
theorem clashFrom_none (P : List (List ByteArray)) (b j : Nat) (h : j < P.length) (hf : find1 (lx P j) (P.take j) 0 = none) : clashFrom P (b + 1) j = clashFrom P b (j + 1) := by
  simp only [clashFrom, if_pos h, hf]
theorem clashFrom_some (P : List (List ByteArray)) (b j i : Nat) (e : Int) (h : j < P.length) (hf : find1 (lx P j) (P.take j) 0 = some (i, e)) : clashFrom P (b + 1) j = ((i : Int), (j : Int), e) := by
  simp only [clashFrom, if_pos h, hf]
/-- The three results of Clash. -/
def ClashV (P : List (List ByteArray)) : Value := .tuple #[.int .i64 (clashFrom P P.length 0).1, .int .i64 (clashFrom P P.length 0).2.1, .int .i64 (clashFrom P P.length 0).2.2]
set_option maxRecDepth 100000 in
theorem refClash_any (A0 : Option Addr) (c0 : Nat) (P : List (List ByteArray)) (w : World) (hr : KL.C w A0 P.length P) (hl : P.length ≤ 5864062014804) (hs : Lens P) :
    Calls Try.prog 16 #[.slice A0 P.length c0] w fun e w' => e = .returned (ClashV P) ∧ Below w.heap.size w w' := by
  have HR := Aside0.mk hr
  have HS := Aside0.mk hs
  have HF : Hid (∀ a b c : Int, clashFrom P P.length 0 = (a, b, c) → ClashV P = .tuple #[.int .i64 a, .int .i64 b, .int .i64 c]) := Lib.hid fun a b c h => by rw [ClashV, h]
  clear hr hs
  go_enter Try.func16, Try.ntmps16
  go_wp2
  go_loopw [5, 6] (fun j i wr => ∃ k b : Nat, k ≤ P.length ∧ P.length ≤ k + b ∧ j = .int .i64 k ∧ Hid (clashFrom P b k = clashFrom P P.length 0) ∧ Aside0 (Below w.heap.size w wr)) (fun j _ _ => P.length - (intOf j).toNat)
  case atStart => exact ⟨0, P.length, by omega, by omega, rfl, Lib.hid rfl, ⟨Below.refl _ _⟩⟩
  case round =>
    obtain ⟨k, b, hk, hkb, rfl, HC, HB⟩ := hrel
    by_cases hlt : k < P.length
    · obtain ⟨b, rfl⟩ : ∃ m, b = m + 1 := ⟨b - 1, by omega⟩
      obtain ⟨bd, D, d, e1, hy, hld, hry⟩ := at_list HR.out k hlt
      cases e1
      replace hy := cell_stay HB.out hy
      have HY := Aside0.mk (Kd.C_below hry HB.out)
      have HM := Lib.hid (HS.out _ (nth_mem [] P k hlt))
      clear hry
      go_wp2
      obtain ⟨wo, rfl⟩ : ∃ wo : World, wo = wr := ⟨_, rfl⟩
      go_loopw [6] (fun i wq => ∃ q : Nat, q ≤ k ∧ i = .int .i64 q ∧ Hid (find1 (lx P k) ((P.take k).drop q) q = find1 (lx P k) (P.take k) 0) ∧ Aside0 (Below wo.heap.size wo wq)) (fun i _ => k - (intOf i).toNat)
      case atStart => exact ⟨0, by omega, rfl, Lib.hid rfl, ⟨Below.refl _ _⟩⟩
      case round =>
        obtain ⟨q, hq, rfl, HC2, HB2⟩ := hrel
        by_cases hlt2 : q < k
        · obtain ⟨ad, B, c_1, e0, hx, hlc, hrx⟩ := at_list HR.out q (by omega)
          cases e0
          replace hx := cell_stay (below_step HB.out HB2.out) hx
          have hy2 := cell_stay HB2.out hy
          have HX := Aside0.mk (Kd.C_below hrx (below_step HB.out HB2.out))
          have HY2 := Aside0.mk (Kd.C_below HY.out HB2.out)
          have HM2 := Lib.hid (HS.out _ (nth_mem [] P q (by omega)))
          clear hrx
          have HU : Hid (find1 (lx P k) ((P.take k).drop q) q = if bothV (lx P q) (lx P k) = 0 then find1 (lx P k) ((P.take k).drop (q + 1)) (q + 1) else some (q, bothV (lx P q) (lx P k))) :=
            Lib.hid (by rw [show (P.take k).drop q = lx P q :: (P.take k).drop (q + 1) from take_drop P q k hlt2 (by omega)]; rfl)
          generalize hbv : bothV (lx P q) (lx P k) = c at HU
          have HBA : Hid (∀ n : Nat, Calls Try.prog 26 #[.slice B (lx P q).length c_1, .slice D (lx P k).length d] (wr.drewN n) fun e w' => e = .returned (.int .i64 c) ∧ ∃ m, w' = (wr.drewN n).drewN m) :=
            Lib.hid fun n => by rw [← hbv]; exact both_q _ _ _ _ _ _ _ (Kd.C_drewN HX.out _) (Kd.C_drewN HY2.out _) HM2.out HM.out
          clear hbv
          by_cases hc : c = 0
          · rw [if_pos hc] at HU
            have hc1 : (c == 0) = true := by simp [hc]
            have hc2 : (c != 0) = false := by simp [hc]
            clear hc
            go_wp2_with fail
            go_quiet ((go_at_call 26; exact Calls.quiet_of (HBA.out _)))
            go_wp2
            go_roundw
            case rel => exact ⟨q + 1, by omega, by go_num, Lib.hid (by rw [← HC2.out, HU.out]), ⟨below_drewN HB2.out _⟩⟩
            case measure => simp [intOf]; omega
          · rw [if_neg hc] at HU
            have hc1 : (c == 0) = false := by simp [hc]
            have hc2 : (c != 0) = true := by simp [hc]
            clear hc
            go_wp2_with fail
            go_quiet ((go_at_call 26; exact Calls.quiet_of (HBA.out _)))
            go_wp2
            go_ret3
            exact ⟨by rw [HF.out q k c (by rw [← HC.out, clashFrom_some P b k q c hlt (by rw [← HC2.out, HU.out])])]; rfl, below_drewN (below_step HB.out HB2.out) _⟩
        · have HN : Hid (find1 (lx P k) (P.take k) 0 = none) := Lib.hid (by rw [← HC2.out, List.drop_of_length_le (by rw [List.length_take]; omega)]; rfl)
          go_wp2
          go_roundw
          case rel => exact ⟨k + 1, b, by omega, by omega, by go_num, Lib.hid (by rw [← HC.out, clashFrom_none P b k hlt HN.out]), ⟨below_step HB.out HB2.out⟩⟩
          case measure => simp [intOf]; omega
    · go_wp2
      go_ret3
      exact ⟨by rw [HF.out 0 0 0 (by rw [← HC.out, clashFrom_end P b k hlt])]; rfl, HB.out⟩
end Nm
end Go.Proofs.Ytpkeabggkeecaaa
