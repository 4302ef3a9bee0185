/- Layer 5 (names), walks: what each Go function of package names and of its reference answers, as a plain function of its strings: Utf8, Component, Path. Conditions: a string's length is within the form's reach. -/
import Derived.Test.YtpkeabggkeecaaaWd
set_option linter.unusedVariables false
set_option linter.unusedSimpArgs false
namespace Go.Proofs.Ytpkeabggkeecaaa
open Go.RowKit Go.Proofs.YtpkeabggkeecaaaW.PrintWords
namespace Nm
open Wd
/-- Does the text begin with p? -/
def pre (s p : ByteArray) : Bool := decide (p.size ≤ s.size) && ((s.extract 0 p.size).toList == p.toList)
theorem hasPrefix0_any (s p : ByteArray) (w : World) : Calls Try.prog 49 #[.string s, .string p] w fun e w' => e = .returned (.bool (pre s p)) ∧ w = w' := by
  by_cases h : p.size ≤ s.size
  · have hd : decide (p.size ≤ s.size) = true := by simpa using h
    go_enter Try.func49, Try.ntmps49
    go_wp2
    go_ret
    exact ⟨by simp [pre, h], rfl⟩
  · have hd : decide (p.size ≤ s.size) = false := by simpa using h
    go_enter Try.func49, Try.ntmps49
    go_wp2
    go_ret
    exact ⟨by simp [pre, h], rfl⟩
theorem hasPrefix_any (s p : ByteArray) (w : World) : Calls Try.prog 42 #[.string s, .string p] w fun e w' => e = .returned (.bool (pre s p)) ∧ w = w' := by
  go_enter Try.func42, Try.ntmps42
  go_wp2_with (go_at_call 49; refine (hasPrefix0_any _ _ _).mono ?_; rintro e w' ⟨rfl, rfl⟩)
  go_ret
  exact ⟨rfl, rfl⟩
/-- Is the byte at i no sign's, though a sign of the text is looked for there? -/
def badAt (s : ByteArray) (i : Nat) : Bool := ((Utf8.decode s i).1 == 65533) && !pre (s.extract i s.size) ⟨#[239, 191, 189]⟩
/-- The first such byte from i on. -/
def sgn (s : ByteArray) : Nat → Nat → Int
  | 0, _ => -1
  | k + 1, i => if i < s.size then (if badAt s i = true then (i : Int) else sgn s k (i + (Utf8.decode s i).2)) else -1
theorem sgn_end (s : ByteArray) (b i : Nat) (h : ¬ i < s.size) : sgn s b i = -1 := by
  cases b with
  | zero => rfl
  | succ b => simp [sgn, h]
theorem width_pos (s : ByteArray) (pos : Nat) (h : pos < s.size) : 1 ≤ (Utf8.decode s pos).2 := by
  by_cases ha : (s[pos]'h).toNat < 128
  · rw [decode_ascii s pos h ha]
    exact Nat.le_refl _
  · exact (decode_high s pos h (by omega)).2
set_option maxRecDepth 1000000 in
theorem utf8_any (s : ByteArray) (w : World) :
    Calls Try.prog 27 #[.string s] w fun e w' => e = .returned (.int .i64 (sgn s s.size 0)) ∧ Below w.heap.size w w' := by
  go_enter Try.func27, Try.ntmps27
  go_wp2
  go_loopw [] (fun w' => ∃ (pos b : Nat), w' = w.iter s pos ∧ sgn s b pos = sgn s s.size 0 ∧ s.size ≤ pos + b) (fun w' => s.size - w'.iterPos w.heap.size)
  case atStart => exact ⟨0, s.size, rfl, rfl, by omega⟩
  case round =>
    obtain ⟨pos, b, rfl, hc, hb⟩ := hrel
    have HC := Lib.hid hc
    clear hc
    by_cases hp : pos < s.size
    · have hnx : ∀ ty, (Instr.next (.pointer (some ⟨w.heap.size, 0, none⟩)) true ty).run Try.prog (w.iter s pos) = _ := fun ty => run_next_any w s pos ty hp
      have hw := width_pos s pos hp
      obtain ⟨b, rfl⟩ : ∃ m, b = m + 1 := ⟨b - 1, by omega⟩
      have hu : sgn s (b + 1) pos = if badAt s pos = true then (pos : Int) else sgn s b (pos + (Utf8.decode s pos).2) := by simp [sgn, hp]
      have HU := Lib.hid hu
      clear hu
      by_cases hr : (Utf8.decode s pos).1 = 65533
      · have hr1 : (((Utf8.decode s pos).1 : Int) == 65533) = true := by simp [hr]
        have hba : badAt s pos = !pre (s.extract pos s.size) ⟨#[239, 191, 189]⟩ := by simp [badAt, hr]
        have HBA := Lib.hid hba
        clear hr hba
        by_cases hpr : pre (s.extract pos s.size) ⟨#[239, 191, 189]⟩ = true
        · go_wp2_with (go_at_call 42; refine (hasPrefix_any _ _ _).mono ?_; rintro e w' ⟨rfl, rfl⟩)
          go_roundw
          case rel =>
            refine ⟨pos + (Utf8.decode s pos).2, b, rfl, ?_, by omega⟩
            rw [← HC.out, HU.out, HBA.out, hpr]
            rfl
          case measure =>
            simp
            omega
        · replace hpr := Bool.eq_false_iff.mpr hpr
          go_wp2_with (go_at_call 42; refine (hasPrefix_any _ _ _).mono ?_; rintro e w' ⟨rfl, rfl⟩)
          go_ret
          refine ⟨ret_i ?_, bel_iter (Below.refl _ _) _ _⟩
          rw [← HC.out, HU.out, HBA.out, hpr]
          rfl
      · have hr1 : (((Utf8.decode s pos).1 : Int) == 65533) = false := by simp; omega
        have hba : badAt s pos = false := by simp [badAt, hr]
        have HBA := Lib.hid hba
        clear hr hba
        go_wp2
        go_roundw
        case rel =>
          refine ⟨pos + (Utf8.decode s pos).2, b, rfl, ?_, by omega⟩
          rw [← HC.out, HU.out, HBA.out]
          rfl
        case measure =>
          simp
          omega
    · have hnx : ∀ ty, (Instr.next (.pointer (some ⟨w.heap.size, 0, none⟩)) true ty).run Try.prog (w.iter s pos) = _ := fun ty => run_next_end w s pos ty hp
      go_wp2
      go_ret
      have hc := HC.out
      rw [sgn_end s b pos hp] at hc
      exact ⟨ret_i hc, bel_iter (Below.refl _ _) _ _⟩
/-! ### the reference's Utf8 -/
/-- What the wide table of torrentref5 tells of a first byte. -/
def wide (c : Int) : Int := if c < 128 then 1 else if c < 192 then 0 else if c < 224 then 2 else if c < 240 then 3 else if c < 248 then 4 else 0
theorem wide_any (c : Int) (h0 : 0 ≤ c) (h1 : c ≤ 255) (w : World) : Calls Try.prog 51 #[.int .u8 c] w fun e w' => e = .returned (.int .i64 (wide c)) ∧ w = w' := by
  go_enter Try.func51, Try.ntmps51
  go_wp2
  all_goals (go_ret; refine ⟨ret_i ?_, rfl⟩; unfold wide; (repeat' split) <;> first | rfl | omega)
def signL (s : ByteArray) (i : Nat) (n : Int) : Nat → Nat → Int → Int
  | 0, _, v => v
  | b + 1, k, v => if (k : Int) < n then (if byt s (i + k) < 128 ∨ 191 < byt s (i + k) then -1 else signL s i n b (k + 1) (v * 64 + byt s (i + k) - 128)) else v
def first (n : Int) : Int := if n = 2 then 192 else if n = 3 then 224 else 240
def bnd (k : Nat) : Int := if k = 1 then 300 else if k = 2 then 20000 else if k = 3 then 1300000 else 90000000
theorem signL_end (s : ByteArray) (i : Nat) (n : Int) (b k : Nat) (v : Int) (h : ¬ (k : Int) < n) : signL s i n b k v = v := by
  cases b with
  | zero => rfl
  | succ b => simp [signL, h]
theorem bnd_step (k : Nat) (h : 1 ≤ k) (h3 : k < 4) (x c : Int) (h1 : -bnd k ≤ x) (h2 : x ≤ bnd k) (c0 : 0 ≤ c) (c1 : c ≤ 255) : -bnd (k + 1) ≤ x * 64 + c - 128 ∧ x * 64 + c - 128 ≤ bnd (k + 1) ∧ -90000000 ≤ x ∧ x ≤ 90000000 := by
  obtain rfl | rfl | rfl : k = 1 ∨ k = 2 ∨ k = 3 := by omega
  all_goals (simp [bnd] at *; omega)
set_option maxRecDepth 1000000 in
theorem sign_any (s : ByteArray) (i : Nat) (n : Nat) (w : World) (hs : s.size ≤ 140737488351232) (hn1 : 2 ≤ n) (hn2 : n ≤ 4) (hi : i + n ≤ s.size) :
    Calls Try.prog 52 #[.string s, .int .i64 i, .int .i64 n] w fun e w' => e = .returned (.int .i64 (signL s i n 4 1 (byt s i - first n))) ∧ Below w.heap.size w w' := by
  have q1 : (0 : Int) ≤ (i : Int) := by omega
  have q2 : (i : Int) < (s.size : Int) := by omega
  have q3 : (n : Int) < 5 := by omega
  have b0 := byt_lo s i
  have b1 := byt_hi s i
  have hb : ((s[i]'(by omega)).toNat : Int) = byt s i := byt_eq s i (by omega)
  have hwr : IntKind.i64.wrap (byt s i) = byt s i := IntWalk.i64_in _ (by omega)
  have hcell : (w.alloc (.cells #[.int .i64 0, .int .i64 0, .int .i64 192, .int .i64 224, .int .i64 240] 81)).cell? ⟨w.heap.size, n, none⟩ = some (.int .i64 (first n)) := by
    obtain rfl | rfl | rfl : n = 2 ∨ n = 3 ∨ n = 4 := by omega
    all_goals (simp [first]; done)
  have hf : 192 ≤ first n ∧ first n ≤ 240 := by unfold first; repeat' split <;> omega
  have hf1 := hf.1
  have hf2 := hf.2
  have hbel := fun nq : Nat => below_drewN (below_alloc (Below.refl w.heap.size w) (.cells #[.int .i64 0, .int .i64 0, .int .i64 192, .int .i64 224, .int .i64 240] 81)) nq
  have HB := Lib.hid hbel
  clear hf hbel
  go_enter Try.func52, Try.ntmps52
  go_wp2
  go_quiet (fail)
  go_wp2
  clear hwr hb hcell
  go_loop [8, 9] (fun v k => ∃ (kk b : Nat) (x : Int), v = .int .i64 x ∧ k = .int .i64 kk ∧ 1 ≤ kk ∧ kk ≤ n ∧ -bnd kk ≤ x ∧ x ≤ bnd kk ∧ Hid (signL s i n b kk x = signL s i n 4 1 (byt s i - first n)) ∧ 5 ≤ kk + b) (fun _ k => (n - intOf k).toNat)
  case atStart => exact ⟨1, 4, _, rfl, rfl, by omega, by omega, by simp [bnd]; omega, by simp [bnd]; omega, Lib.hid rfl, by omega⟩
  case round =>
    obtain ⟨kk, b, x, rfl, rfl, k1, k2, x1, x2, HS, hb⟩ := hrel
    by_cases hk : kk < n
    · have p1 : (0 : Int) ≤ (i : Int) + kk := by omega
      have p2 : (i : Int) + kk < (s.size : Int) := by omega
      have c0 := byt_lo s (i + kk)
      have c1 := byt_hi s (i + kk)
      have hc : ((s[i + kk]'(by omega)).toNat : Int) = byt s (i + kk) := byt_eq s (i + kk) (by omega)
      obtain ⟨g1, g2, g3, g4⟩ := bnd_step kk k1 (by omega) x (byt s (i + kk)) x1 x2 c0 c1
      obtain ⟨b, rfl⟩ : ∃ m, b = m + 1 := ⟨b - 1, by omega⟩
      have HU : Hid (signL s i n (b + 1) kk x = if byt s (i + kk) < 128 ∨ 191 < byt s (i + kk) then -1 else signL s i n b (kk + 1) (x * 64 + byt s (i + kk) - 128)) := Lib.hid (by simp [signL, hk])
      by_cases hd : byt s (i + kk) < 128 ∨ 191 < byt s (i + kk)
      · go_wp2
        all_goals first | omega | skip
        all_goals
          go_ret
          exact ⟨ret_i (by rw [← HS.out, HU.out, if_pos hd]), HB.out _⟩
      · have hd1 : 128 ≤ byt s (i + kk) := by omega
        have hd2 : byt s (i + kk) ≤ 191 := by omega
        go_wp2
        go_round
        case rel => exact ⟨kk + 1, b, _, rfl, by go_num, by omega, by omega, g1, g2, Lib.hid (by rw [← HS.out, HU.out, if_neg hd]), by omega⟩
        case measure => simp [intOf]; omega
    · go_wp2
      go_ret
      exact ⟨ret_i (by rw [← HS.out, signL_end _ _ _ _ _ _ (by omega)]), HB.out _⟩
def short (n : Nat) : Int := if n = 2 then 128 else if n = 3 then 2048 else 65536
/-- What torrentref5's formed answers. -/
def formedV (s : ByteArray) (i : Nat) : Int :=
  if wide (byt s i) < 2 then wide (byt s i) else if (s.size : Int) < i + wide (byt s i) then 0
  else if signL s i (wide (byt s i)) 4 1 (byt s i - first (wide (byt s i))) < short (wide (byt s i)).toNat ∨ 1114111 < signL s i (wide (byt s i)) 4 1 (byt s i - first (wide (byt s i))) ∨ 55296 ≤ signL s i (wide (byt s i)) 4 1 (byt s i - first (wide (byt s i))) ∧ signL s i (wide (byt s i)) 4 1 (byt s i - first (wide (byt s i))) ≤ 57343 then 0
  else wide (byt s i)
theorem wide_le (c : Int) : 0 ≤ wide c ∧ wide c ≤ 4 := by unfold wide; (repeat' split) <;> omega
set_option maxRecDepth 1000000 in
theorem formed_any (s : ByteArray) (i : Nat) (w : World) (hs : s.size ≤ 140737488351232) (hi : i < s.size) :
    Calls Try.prog 48 #[.string s, .int .i64 i] w fun e w' => e = .returned (.int .i64 (formedV s i)) ∧ Below w.heap.size w w' := by
  have q1 : (0 : Int) ≤ (i : Int) := by omega
  have q2 : (i : Int) < (s.size : Int) := by omega
  have b0 := byt_lo s i
  have b1 := byt_hi s i
  have hb : ((s[i]'hi).toNat : Int) = byt s i := byt_eq s i hi
  have hw := wide_le (byt s i)
  have hw1 := hw.1
  have hw2 := hw.2
  clear hw
  obtain ⟨n, hn⟩ := Int.eq_ofNat_of_zero_le hw1
  have HF : Hid (formedV s i = if (n : Int) < 2 then (n : Int) else if (s.size : Int) < i + n then 0
    else if signL s i n 4 1 (byt s i - first n) < short n ∨ 1114111 < signL s i n 4 1 (byt s i - first n) ∨ 55296 ≤ signL s i n 4 1 (byt s i - first n) ∧ signL s i n 4 1 (byt s i - first n) ≤ 57343 then 0 else (n : Int)) := Lib.hid (by unfold formedV; rw [hn]; rfl)
  have hwa : ∀ w : World, Calls Try.prog 51 #[.int .u8 (byt s i)] w fun e w' => e = .returned (.int .i64 n) ∧ w = w' := fun w => by rw [← hn]; exact wide_any _ b0 b1 w
  have HW := Lib.hid hwa
  rw [hn] at hw2
  clear hn hwa hw1
  by_cases h2 : (n : Int) < 2
  · go_enter Try.func48, Try.ntmps48
    go_wp2_with (go_at_call 51; refine (HW.out _).mono ?_; rintro e w' ⟨rfl, rfl⟩)
    go_ret
    exact ⟨ret_i (by rw [HF.out, if_pos (by omega)]), Below.refl _ _⟩
  · by_cases h3 : (s.size : Int) < i + n
    · go_enter Try.func48, Try.ntmps48
      go_wp2_with (go_at_call 51; refine (HW.out _).mono ?_; rintro e w' ⟨rfl, rfl⟩)
      go_ret
      exact ⟨ret_i (by rw [HF.out, if_neg (by omega), if_pos h3]), Below.refl _ _⟩
    · generalize hv : signL s i n 4 1 (byt s i - first n) = v at HF
      have HV := Lib.hid hv
      clear hv
      have hsa : ∀ w : World, Calls Try.prog 52 #[.string s, .int .i64 i, .int .i64 n] w fun e w' => e = .returned (.int .i64 v) ∧ Below w.heap.size w w' := fun w => by rw [← HV.out]; exact sign_any s i n w hs (by omega) (by omega) (by omega)
      have HS := Lib.hid hsa
      clear hsa
      have q3 : (n : Int) < 5 := by omega
      have hcell : ∀ w : World, (w.alloc (.cells #[.int .i64 0, .int .i64 0, .int .i64 128, .int .i64 2048, .int .i64 65536] 81)).cell? ⟨w.heap.size, n, none⟩ = some (.int .i64 (short n)) := by
        intro w
        obtain rfl | rfl | rfl : n = 2 ∨ n = 3 ∨ n = 4 := by omega
        all_goals (simp [short]; done)
      go_enter Try.func48, Try.ntmps48
      go_wp2_with (first | (go_at_call 51; refine (HW.out _).mono ?_; rintro e w' ⟨rfl, rfl⟩) | (go_at_call 52; refine (HS.out _).mono ?_; rintro e w1 ⟨rfl, hb1⟩))
      all_goals (go_ret; exact ⟨ret_i (by rw [HF.out, if_neg (by omega), if_neg (by omega)]; first | rw [if_pos (by omega)] | rw [if_neg (by omega)]), below_alloc hb1 _⟩)
end Nm
end Go.Proofs.Ytpkeabggkeecaaa
