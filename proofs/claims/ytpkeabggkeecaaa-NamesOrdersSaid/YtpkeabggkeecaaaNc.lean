/- Layer 5 (names), walks: Utf8 of the reference, Component, Path: package names and its reference answer by one and the same plain function. Conditions: a string's length is within the form's reach; a list of strings is read at its address. -/
import Derived.Test.YtpkeabggkeecaaaNb
set_option linter.unusedVariables false
set_option linter.unusedSimpArgs false
namespace Go.Proofs.Ytpkeabggkeecaaa
open Go.RowKit Go.Proofs.YtpkeabggkeecaaaW.PrintWords
namespace Nm
open Wd
set_option maxRecDepth 1000000 in
theorem refUtf8_any (s : ByteArray) (w : World) (hs : s.size ≤ 140737488351232) :
    Calls Try.prog 40 #[.string s] w fun e w' => e = .returned (.int .i64 (sgn s s.size 0)) ∧ Below w.heap.size w w' := by
  go_enter Try.func40, Try.ntmps40
  go_wp2
  go_loopw [3] (fun i wr => ∃ (pos b : Nat), i = .int .i64 pos ∧ pos ≤ s.size + 3 ∧ Hid (sgn s b pos = sgn s s.size 0) ∧ s.size ≤ pos + b ∧ Below w.heap.size w wr) (fun i _ => s.size - (intOf i).toNat)
  case atStart => exact ⟨0, s.size, rfl, by omega, Lib.hid rfl, by omega, Below.refl _ _⟩
  case round =>
    obtain ⟨pos, b, rfl, h3, HC, hb, hbel⟩ := hrel
    by_cases hp : pos < s.size
    · have hw := width_pos s pos hp
      have hw4 : (Utf8.decode s pos).2 ≤ 4 := by
        simp only [Utf8.decode]
        repeat' split
        all_goals simp
      obtain ⟨b, rfl⟩ : ∃ m, b = m + 1 := ⟨b - 1, by omega⟩
      have HU : Hid (sgn s (b + 1) pos = if badAt s pos = true then (pos : Int) else sgn s b (pos + (Utf8.decode s pos).2)) := Lib.hid (by simp [sgn, hp])
      have HF : Hid (∀ w : World, Calls Try.prog 48 #[.string s, .int .i64 pos] w fun e w' => e = .returned (.int .i64 (if badAt s pos = true then 0 else ((Utf8.decode s pos).2 : Int))) ∧ Below w.heap.size w w') :=
        Lib.hid fun w => by rw [← formedV_eq s pos hp]; exact formed_any s pos w hs hp
      by_cases hba : badAt s pos = true
      · rw [if_pos hba] at HU HF
        clear hba
        go_wp2_with (go_at_call 48; refine (HF.out _).mono ?_; rintro e w1 ⟨rfl, hb1⟩)
        go_ret
        exact ⟨ret_i (by rw [← HC.out, HU.out]), below_step hbel hb1⟩
      · rw [if_neg hba] at HU HF
        clear hba
        go_wp2_with (go_at_call 48; refine (HF.out _).mono ?_; rintro e w1 ⟨rfl, hb1⟩)
        all_goals first | omega | skip
        go_roundw
        case rel => exact ⟨pos + (Utf8.decode s pos).2, b, by go_num, by omega, Lib.hid (by rw [← HC.out, HU.out]), by omega, below_step hbel hb1⟩
        case measure => simp [intOf]; omega
    · go_wp2
      go_ret
      exact ⟨ret_i (by rw [← HC.out, sgn_end s b pos hp]), hbel⟩
/-! ### Component -/
/-- May a sign stand in no name? -/
def barB (r : Int) : Bool := decide (r < 32) || (r == 127) || (r == 47) || (r == 92)
theorem barB_iff (r : Int) : barB r = true ↔ (r < 32 ∨ r = 127 ∨ r = 47 ∨ r = 92) := by simp [barB, or_assoc]
theorem barred_any (r : Int) (w : World) : Calls Try.prog 28 #[.int .i32 r] w fun e w' => e = .returned (.bool (barB r)) ∧ w = w' := by
  go_enter Try.func28, Try.ntmps28
  go_wp2
  all_goals (go_ret; refine ⟨ret_b ?_, rfl⟩; first | rfl | (unfold barB; simp; done) | (unfold barB; simp; omega))
def brd (s : ByteArray) : Nat → Nat → Bool
  | 0, _ => false
  | k + 1, i => if i < s.size then (barB (Utf8.decode s i).1 || brd s k (i + (Utf8.decode s i).2)) else false
theorem brd_end (s : ByteArray) (b i : Nat) (h : ¬ i < s.size) : brd s b i = false := by
  cases b with
  | zero => rfl
  | succ b => simp [brd, h]
def dotB (s : ByteArray) : Bool := (s.toList == [46]) || (s.toList == [46, 46])
/-- What Component answers. -/
def comp (s : ByteArray) : Int := if s.toList.isEmpty = true then 50 else if 255 < s.size then 51 else if 0 ≤ sgn s s.size 0 then 52 else if dotB s = true then 53 else if brd s s.size 0 = true then 54 else 0
set_option maxRecDepth 1000000 in
theorem comp_any (s : ByteArray) (w : World) : Calls Try.prog 19 #[.string s] w fun e w' => e = .returned (.int .i64 (comp s)) ∧ Below w.heap.size w w' := by
  by_cases h1 : s.toList.isEmpty = true
  · have HF : Hid (comp s = 50) := Lib.hid (by simp [comp, h1])
    go_enter Try.func19, Try.ntmps19
    go_wp2
    go_ret
    exact ⟨ret_i (by rw [HF.out]), Below.refl _ _⟩
  by_cases h2 : 255 < s.size
  · have HF : Hid (comp s = 51) := Lib.hid (by simp [comp, h1, h2])
    replace h1 := Bool.eq_false_iff.mpr h1
    go_enter Try.func19, Try.ntmps19
    go_wp2
    go_ret
    exact ⟨ret_i (by rw [HF.out]), Below.refl _ _⟩
  by_cases h3 : 0 ≤ sgn s s.size 0
  · have HF : Hid (comp s = 52) := Lib.hid (by simp [comp, h1, h2, h3])
    replace h1 := Bool.eq_false_iff.mpr h1
    go_enter Try.func19, Try.ntmps19
    go_wp2_with (go_at_call 27; refine (utf8_any _ _).mono ?_; rintro e w1 ⟨rfl, hb1⟩)
    go_ret
    exact ⟨ret_i (by rw [HF.out]), hb1⟩
  by_cases h4 : dotB s = true
  · have HF : Hid (comp s = 53) := Lib.hid (by simp [comp, h1, h2, h3, h4])
    replace h1 := Bool.eq_false_iff.mpr h1
    have h5 : (s.toList == [46]) = true ∨ (s.toList == [46]) = false ∧ (s.toList == [46, 46]) = true := by
      unfold dotB at h4; cases h : (s.toList == [46]) <;> simp_all
    clear h4
    rcases h5 with h5 | ⟨h5, h6⟩
    all_goals
      go_enter Try.func19, Try.ntmps19
      go_wp2_with (go_at_call 27; refine (utf8_any _ _).mono ?_; rintro e w1 ⟨rfl, hb1⟩)
      go_ret
      exact ⟨ret_i (by rw [HF.out]), hb1⟩
  have HF : Hid (comp s = if brd s s.size 0 = true then 54 else 0) := Lib.hid (by simp [comp, h1, h2, h3, h4])
  replace h1 := Bool.eq_false_iff.mpr h1
  have h5 : (s.toList == [46]) = false := by unfold dotB at h4; simp_all
  have h6 : (s.toList == [46, 46]) = false := by unfold dotB at h4; simp_all
  clear h4
  go_enter Try.func19, Try.ntmps19
  go_wp2_with (go_at_call 27; refine (utf8_any _ _).mono ?_; rintro e w1 ⟨rfl, hb1⟩)
  go_loopw [] (fun w' => ∃ (pos b : Nat), w' = w1.iter s pos ∧ Hid (brd s b pos = brd s s.size 0) ∧ s.size ≤ pos + b) (fun w' => s.size - w'.iterPos w1.heap.size)
  case atStart => exact ⟨0, s.size, rfl, Lib.hid rfl, by omega⟩
  case round =>
    obtain ⟨pos, b, rfl, HC, hb⟩ := hrel
    by_cases hp : pos < s.size
    · have hnx : ∀ ty, (Instr.next (.pointer (some ⟨w1.heap.size, 0, none⟩)) true ty).run Try.prog (w1.iter s pos) = _ := fun ty => run_next_any w1 s pos ty hp
      have hw := width_pos s pos hp
      obtain ⟨b, rfl⟩ : ∃ m, b = m + 1 := ⟨b - 1, by omega⟩
      have HU : Hid (brd s (b + 1) pos = (barB (Utf8.decode s pos).1 || brd s b (pos + (Utf8.decode s pos).2))) := Lib.hid (by simp [brd, hp])
      have HB : Hid (∀ w : World, Calls Try.prog 28 #[.int .i32 ((Utf8.decode s pos).1 : Nat)] w fun e w' => e = .returned (.bool (barB (Utf8.decode s pos).1)) ∧ w = w') := Lib.hid fun w => barred_any _ w
      cases hbb : barB (Utf8.decode s pos).1 with
      | true =>
        rw [hbb] at HU HB
        clear hbb
        go_wp2_with (go_at_call 28; refine (HB.out _).mono ?_; rintro e w' ⟨rfl, rfl⟩)
        go_ret
        exact ⟨ret_i (by rw [HF.out, ← HC.out, HU.out]; rfl), bel_iter hb1 _ _⟩
      | false =>
        rw [hbb] at HU HB
        clear hbb
        go_wp2_with (go_at_call 28; refine (HB.out _).mono ?_; rintro e w' ⟨rfl, rfl⟩)
        go_roundw
        case rel => exact ⟨pos + (Utf8.decode s pos).2, b, rfl, Lib.hid (by rw [← HC.out, HU.out]; rfl), by omega⟩
        case measure =>
          simp
          omega
    · have hnx : ∀ ty, (Instr.next (.pointer (some ⟨w1.heap.size, 0, none⟩)) true ty).run Try.prog (w1.iter s pos) = _ := fun ty => run_next_end w1 s pos ty hp
      go_wp2
      go_ret
      exact ⟨ret_i (by rw [HF.out, ← HC.out, brd_end s b pos hp]; rfl), bel_iter hb1 _ _⟩
/-! ### the reference's Component: by its bytes -/
def brdB (s : ByteArray) : Nat → Nat → Bool
  | 0, _ => false
  | k + 1, i => if i < s.size then (barB (byt s i) || brdB s k (i + 1)) else false
theorem brdB_end (s : ByteArray) (b i : Nat) (h : ¬ i < s.size) : brdB s b i = false := by
  cases b with
  | zero => rfl
  | succ b => simp [brdB, h]
set_option maxRecDepth 1000000 in
theorem refComp_any0 (s : ByteArray) (w : World) (hs : s.size ≤ 140737488351232) : Calls Try.prog 25 #[.string s] w fun e w' => e = .returned (.int .i64 (if s.toList.isEmpty = true then 50 else if 255 < s.size then 51 else if 0 ≤ sgn s s.size 0 then 52 else if dotB s = true then 53 else if brdB s s.size 0 = true then 54 else 0)) ∧ Below w.heap.size w w' := by
  generalize hc : (if s.toList.isEmpty = true then (50 : Int) else if 255 < s.size then 51 else if 0 ≤ sgn s s.size 0 then 52 else if dotB s = true then 53 else if brdB s s.size 0 = true then 54 else 0) = c
  have hz : s.toList.isEmpty = true ↔ s.size = 0 := by
    rw [ByteArray.toList_eq, List.isEmpty_iff, ← List.length_eq_zero_iff]; simp
  by_cases h1 : s.size = 0
  · have HF : Hid (c = 50) := Lib.hid (by rw [← hc, if_pos (hz.2 h1)])
    have h1' : (s.size == 0) = true := by simp [h1]
    clear hc hz h1
    go_enter Try.func25, Try.ntmps25
    go_wp2
    go_ret
    exact ⟨ret_i (by rw [HF.out]), Below.refl _ _⟩
  rw [if_neg (fun h => h1 (hz.1 h))] at hc
  have h1' : ((s.size : Int) == 0) = false := by rw [beq_eq_false_iff_ne]; omega
  by_cases h2 : 255 < s.size
  · have HF : Hid (c = 51) := Lib.hid (by rw [← hc, if_pos h2])
    clear hc hz h1
    go_enter Try.func25, Try.ntmps25
    go_wp2
    go_ret
    exact ⟨ret_i (by rw [HF.out]), Below.refl _ _⟩
  rw [if_neg h2] at hc
  by_cases h3 : 0 ≤ sgn s s.size 0
  · have HF : Hid (c = 52) := Lib.hid (by rw [← hc, if_pos h3])
    clear hc hz h1
    go_enter Try.func25, Try.ntmps25
    go_wp2_with (go_at_call 40; refine (refUtf8_any _ _ hs).mono ?_; rintro e w1 ⟨rfl, hb1⟩)
    go_ret
    exact ⟨ret_i (by rw [HF.out]), hb1⟩
  rw [if_neg h3] at hc
  by_cases h4 : dotB s = true
  · have HF : Hid (c = 53) := Lib.hid (by rw [← hc, if_pos h4])
    have h5 : (s.toList == [46]) = true ∨ (s.toList == [46]) = false ∧ (s.toList == [46, 46]) = true := by
      unfold dotB at h4; cases h : (s.toList == [46]) <;> simp_all
    clear h4 hc hz h1
    rcases h5 with h5 | ⟨h5, h6⟩
    all_goals
      go_enter Try.func25, Try.ntmps25
      go_wp2_with (go_at_call 40; refine (refUtf8_any _ _ hs).mono ?_; rintro e w1 ⟨rfl, hb1⟩)
      go_ret
      exact ⟨ret_i (by rw [HF.out]), hb1⟩
  rw [if_neg h4] at hc
  have HF := Lib.hid hc
  have h5 : (s.toList == [46]) = false := by unfold dotB at h4; simp_all
  have h6 : (s.toList == [46, 46]) = false := by unfold dotB at h4; simp_all
  clear h4 hc hz h1
  go_enter Try.func25, Try.ntmps25
  go_wp2_with (go_at_call 40; refine (refUtf8_any _ _ hs).mono ?_; rintro e w1 ⟨rfl, hb1⟩)
  go_loop [4] (fun i => ∃ (pos b : Nat), i = .int .i64 pos ∧ pos ≤ s.size ∧ Hid (brdB s b pos = brdB s s.size 0) ∧ s.size ≤ pos + b) (fun i => s.size - (intOf i).toNat)
  case atStart => exact ⟨0, s.size, rfl, by omega, Lib.hid rfl, by omega⟩
  case round =>
    obtain ⟨pos, b, rfl, hle, HC, hb⟩ := hrel
    by_cases hp : pos < s.size
    · obtain ⟨b, rfl⟩ : ∃ m, b = m + 1 := ⟨b - 1, by omega⟩
      have HU : Hid (brdB s (b + 1) pos = (barB (byt s pos) || brdB s b (pos + 1))) := Lib.hid (by simp [brdB, hp])
      have c0 := byt_lo s pos
      have c1 := byt_hi s pos
      have hcb : ((s[pos]'hp).toNat : Int) = byt s pos := byt_eq s pos hp
      have hbb := barB_iff (byt s pos)
      by_cases hbt : barB (byt s pos) = true
      · rw [hbt] at HU
        have g := hbb.1 hbt
        have g' : byt s pos < 32 ∨ 32 ≤ byt s pos ∧ ((byt s pos == 127) = true) ∨ 32 ≤ byt s pos ∧ ((byt s pos == 127) = false) ∧ ((byt s pos == 47) = true) ∨ 32 ≤ byt s pos ∧ ((byt s pos == 127) = false) ∧ ((byt s pos == 47) = false) ∧ ((byt s pos == 92) = true) := by simp; omega
        clear hbt hbb g
        rcases g' with g | ⟨g, g1⟩ | ⟨g, g1, g2⟩ | ⟨g, g1, g2, g3⟩
        all_goals
          go_wp2
          go_ret
          exact ⟨ret_i (by rw [← HF.out, ← HC.out, HU.out]; rfl), hb1⟩
      · rw [Bool.eq_false_iff.mpr hbt] at HU
        have g : 32 ≤ byt s pos := by rw [hbb] at hbt; omega
        have g1 : (byt s pos == 127) = false := by rw [hbb] at hbt; simp; omega
        have g2 : (byt s pos == 47) = false := by rw [hbb] at hbt; simp; omega
        have g3 : (byt s pos == 92) = false := by rw [hbb] at hbt; simp; omega
        clear hbt hbb
        go_wp2
        go_round
        case rel => exact ⟨pos + 1, b, by go_num, by omega, Lib.hid (by rw [← HC.out, HU.out]; rfl), by omega⟩
        case measure => simp [intOf]; omega
    · go_wp2
      go_ret
      exact ⟨ret_i (by rw [← HF.out, ← HC.out, brdB_end s b pos hp]; rfl), hb1⟩
end Nm
end Go.Proofs.Ytpkeabggkeecaaa
