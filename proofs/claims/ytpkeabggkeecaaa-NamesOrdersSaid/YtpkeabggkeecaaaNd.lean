/- Layer 5 (names), plain: looking for barred signs one by one and byte by byte is the same. No conditions. -/
import Derived.Test.YtpkeabggkeecaaaNc
set_option linter.unusedVariables false
set_option linter.unusedSimpArgs false
namespace Go.Proofs.Ytpkeabggkeecaaa
open Go.RowKit Go.Proofs.YtpkeabggkeecaaaW.PrintWords
namespace Nm
open Wd
theorem decode_low (s : ByteArray) (i : Nat) (hi : i < s.size) (h : byt s i < 128) : Utf8.decode s i = ((byt s i).toNat, 1) := by
  obtain ⟨n0, n1, n2, n3, h0, l0, l1, l2, l3, h1, h2, h3, hd⟩ := decode_cases s i hi
  rw [hd, if_pos (by omega), ← h0]; rfl
theorem decode_hi (s : ByteArray) (i : Nat) (hi : i < s.size) (h : 128 ≤ byt s i) : 128 ≤ (Utf8.decode s i).1 ∧ ∀ k, k < (Utf8.decode s i).2 → i + k < s.size ∧ 128 ≤ byt s (i + k) := by
  obtain ⟨n0, n1, n2, n3, h0, l0, l1, l2, l3, h1, h2, h3, hd⟩ := decode_cases s i hi
  rw [hd, if_neg (by omega)]
  have one : ∀ k, k < 1 → i + k < s.size ∧ 128 ≤ byt s (i + k) := fun k hk => by
    obtain rfl : k = 0 := by omega
    exact ⟨hi, h⟩
  by_cases c1 : n0 / 32 = 6 ∧ i + 1 < s.size ∧ n1 / 64 = 2
  · rw [if_pos c1]
    have := h1 c1.2.1
    split
    · refine ⟨by simp; omega, fun k hk => ?_⟩
      have hk' : k < 2 := hk
      obtain rfl | rfl : k = 0 ∨ k = 1 := by omega
      · exact ⟨hi, h⟩
      · exact ⟨c1.2.1, by omega⟩
    · exact ⟨by simp, one⟩
  rw [if_neg c1]
  by_cases c2 : n0 / 16 = 14 ∧ (i + 1 < s.size ∧ n1 / 64 = 2) ∧ (i + 2 < s.size ∧ n2 / 64 = 2)
  · rw [if_pos c2]
    have := h1 c2.2.1.1
    have := h2 c2.2.2.1
    split
    · refine ⟨by simp; omega, fun k hk => ?_⟩
      have hk' : k < 3 := hk
      obtain rfl | rfl | rfl : k = 0 ∨ k = 1 ∨ k = 2 := by omega
      · exact ⟨hi, h⟩
      · exact ⟨c2.2.1.1, by omega⟩
      · exact ⟨c2.2.2.1, by omega⟩
    · exact ⟨by simp, one⟩
  rw [if_neg c2]
  by_cases c3 : n0 / 8 = 30 ∧ (i + 1 < s.size ∧ n1 / 64 = 2) ∧ (i + 2 < s.size ∧ n2 / 64 = 2) ∧ (i + 3 < s.size ∧ n3 / 64 = 2)
  · rw [if_pos c3]
    have := h1 c3.2.1.1
    have := h2 c3.2.2.1.1
    have := h3 c3.2.2.2.1
    split
    · refine ⟨by simp; omega, fun k hk => ?_⟩
      have hk' : k < 4 := hk
      obtain rfl | rfl | rfl | rfl : k = 0 ∨ k = 1 ∨ k = 2 ∨ k = 3 := by omega
      · exact ⟨hi, h⟩
      · exact ⟨c3.2.1.1, by omega⟩
      · exact ⟨c3.2.2.1.1, by omega⟩
      · exact ⟨c3.2.2.2.1, by omega⟩
    · exact ⟨by simp, one⟩
  rw [if_neg c3]
  exact ⟨by simp, one⟩
/-- High bytes are passed over. -/
theorem brdB_skip (s : ByteArray) : ∀ (n b i : Nat), (∀ k, k < n → i + k < s.size ∧ 128 ≤ byt s (i + k)) → brdB s (b + n) i = brdB s b (i + n)
  | 0, b, i, _ => rfl
  | n + 1, b, i, h => by
    have h0 := h 0 (by omega)
    have hb : barB (byt s i) = false := by
      have := barB_iff (byt s i)
      have h1 := h0.2
      rw [Nat.add_zero] at h1
      by_cases c : barB (byt s i) = true
      · have := this.1 c; omega
      · exact Bool.eq_false_iff.mpr c
    have e : brdB s (b + (n + 1)) i = brdB s (b + n) (i + 1) := by
      show brdB s ((b + n) + 1) i = _
      have h2 : i < s.size := h0.1
      simp [brdB, h2, hb]
    rw [e, brdB_skip s n b (i + 1) (fun k hk => by have := h (k + 1) (by omega); rw [show i + 1 + k = i + (k + 1) by omega]; exact this)]
    rw [show i + 1 + n = i + (n + 1) by omega]
theorem brd_eq (s : ByteArray) : ∀ (b i b' : Nat), s.size ≤ i + b → s.size ≤ i + b' → brd s b i = brdB s b' i
  | 0, i, b', h, _ => by rw [brdB_end s b' i (by omega)]; rfl
  | b + 1, i, b', h, h' => by
    by_cases hi : i < s.size
    · have e : brd s (b + 1) i = (barB (Utf8.decode s i).1 || brd s b (i + (Utf8.decode s i).2)) := by simp [brd, hi]
      have hw := width_pos s i hi
      rw [e, brd_eq s b (i + (Utf8.decode s i).2) (b' - (Utf8.decode s i).2) (by omega) (by omega)]
      by_cases hl : byt s i < 128
      · have hd := decode_low s i hi hl
        have h0 := byt_lo s i
        obtain ⟨c, rfl⟩ : ∃ c, b' = c + 1 := ⟨b' - 1, by omega⟩
        rw [hd]
        simp [brdB, hi]
        rw [show max (byt s i) 0 = byt s i by omega]
      · have hd := decode_hi s i hi (by omega)
        have hb : barB (Utf8.decode s i).1 = false := by
          by_cases c : barB (Utf8.decode s i).1 = true
          · have := (barB_iff _).1 c; omega
          · exact Bool.eq_false_iff.mpr c
        have hle : (Utf8.decode s i).2 ≤ b' := by
          have := hd.2 ((Utf8.decode s i).2 - 1) (by omega)
          omega
        have := brdB_skip s (Utf8.decode s i).2 (b' - (Utf8.decode s i).2) i hd.2
        rw [hb, Bool.false_or, ← this, Nat.sub_add_cancel hle]
    · rw [brd_end s _ i hi, brdB_end s b' i hi]
theorem refComp_any (s : ByteArray) (w : World) (hs : s.size ≤ 140737488351232) : Calls Try.prog 25 #[.string s] w fun e w' => e = .returned (.int .i64 (comp s)) ∧ Below w.heap.size w w' := by
  have h : comp s = (if s.toList.isEmpty = true then 50 else if 255 < s.size then 51 else if 0 ≤ sgn s s.size 0 then 52 else if dotB s = true then 53 else if brdB s s.size 0 = true then 54 else 0) := by
    unfold comp; rw [brd_eq s s.size 0 s.size (by omega) (by omega)]
  rw [h]
  exact refComp_any0 s w hs
end Nm
end Go.Proofs.Ytpkeabggkeecaaa
