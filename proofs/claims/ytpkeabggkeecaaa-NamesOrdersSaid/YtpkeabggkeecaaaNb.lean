/- Layer 5 (names), plain: the reference's sequence of UTF-8 at a place is the one that Go's range over a string takes there. Condition: the place lies in the text. -/
import Derived.Test.YtpkeabggkeecaaaNa
set_option linter.unusedVariables false
set_option linter.unusedSimpArgs false
namespace Go.Proofs.Ytpkeabggkeecaaa
open Go.RowKit Go.Proofs.YtpkeabggkeecaaaW.PrintWords
namespace Nm
open Wd
theorem get_byt (s : ByteArray) (i : Nat) (h : i < s.size) : ((s.get! i).toNat : Int) = byt s i := by
  have e : s.get! i = s[i]'h := by have := get_at s i h; simpa using this
  rw [e]; exact byt_eq s i h
theorem byt_data (s : ByteArray) (i : Nat) (h : i < s.size) : (s.data.toList[i]'(by simpa using h)).toNat = (byt s i).toNat := by
  rw [← byt_eq s i h]; rfl
theorem list3 (l : List UInt8) (a b c : UInt8) : (l.take 3 = [a, b, c]) ↔ ∃ h : 3 ≤ l.length, l[0] = a ∧ l[1] = b ∧ l[2] = c := by
  match l with
  | [] => simp
  | [x] => simp
  | [x, y] => simp
  | x :: y :: z :: r => simp
theorem u8_iff (x : UInt8) (n : Nat) (hn : n < 256) : x = UInt8.ofNat n ↔ (x.toNat : Int) = n := by
  constructor
  · rintro rfl; simp [UInt8.toNat_ofNat']; omega
  · intro h; apply UInt8.toNat_inj.1; simp [UInt8.toNat_ofNat']; omega
theorem pre_fffd (s : ByteArray) (i : Nat) (hi : i < s.size) : pre (s.extract i s.size) ⟨#[239, 191, 189]⟩ = decide (i + 3 ≤ s.size ∧ byt s i = 239 ∧ byt s (i + 1) = 191 ∧ byt s (i + 2) = 189) := by
  unfold pre
  rw [Bool.eq_iff_iff]
  simp only [Bool.and_eq_true, decide_eq_true_eq, beq_iff_eq, ByteArray.toList_eq]
  have hz : (ByteArray.mk #[239, 191, 189]).size = 3 := rfl
  have hl : ((s.extract i s.size).extract 0 (ByteArray.mk #[239, 191, 189]).size).data.toList = (s.data.toList.drop i).take 3 := by
    simp [ByteArray.data_extract, hz]
    omega
  have hd : s.data.toList.length = s.size := by simp
  rw [hl, hz, list3, ByteArray.size_extract]
  constructor
  · rintro ⟨h1, h2, h3, h4, h5⟩
    have h6 : i + 3 ≤ s.size := by omega
    simp only [List.getElem_drop] at h3 h4 h5
    refine ⟨h6, ?_, ?_, ?_⟩
    · rw [← byt_eq s i hi]; exact (u8_iff _ 239 (by omega)).1 h3
    · rw [← byt_eq s (i + 1) (by omega)]; exact (u8_iff _ 191 (by omega)).1 h4
    · rw [← byt_eq s (i + 2) (by omega)]; exact (u8_iff _ 189 (by omega)).1 h5
  · rintro ⟨h1, h2, h3, h4⟩
    rw [← byt_eq s i hi] at h2
    rw [← byt_eq s (i + 1) (by omega)] at h3
    rw [← byt_eq s (i + 2) (by omega)] at h4
    refine ⟨by omega, by simp; omega, ?_, ?_, ?_⟩
    · simp only [List.getElem_drop]; exact (u8_iff _ 239 (by omega)).2 h2
    · simp only [List.getElem_drop]; exact (u8_iff _ 191 (by omega)).2 h3
    · simp only [List.getElem_drop]; exact (u8_iff _ 189 (by omega)).2 h4
theorem decode_cases (s : ByteArray) (i : Nat) (hi : i < s.size) : ∃ n0 n1 n2 n3 : Nat, (n0 : Int) = byt s i ∧ n0 < 256 ∧ n1 < 256 ∧ n2 < 256 ∧ n3 < 256 ∧ (i + 1 < s.size → (n1 : Int) = byt s (i + 1)) ∧ (i + 2 < s.size → (n2 : Int) = byt s (i + 2)) ∧ (i + 3 < s.size → (n3 : Int) = byt s (i + 3)) ∧
    Utf8.decode s i = (if n0 < 128 then (n0, 1)
      else if n0 / 32 = 6 ∧ i + 1 < s.size ∧ n1 / 64 = 2 then (if 128 ≤ (n0 % 32) * 64 + n1 % 64 then ((n0 % 32) * 64 + n1 % 64, 2) else (65533, 1))
      else if n0 / 16 = 14 ∧ (i + 1 < s.size ∧ n1 / 64 = 2) ∧ (i + 2 < s.size ∧ n2 / 64 = 2) then (if 2048 ≤ (n0 % 16) * 4096 + (n1 % 64) * 64 + n2 % 64 ∧ Utf8.valid (((n0 % 16) * 4096 + (n1 % 64) * 64 + n2 % 64 : Nat) : Int) = true then ((n0 % 16) * 4096 + (n1 % 64) * 64 + n2 % 64, 3) else (65533, 1))
      else if n0 / 8 = 30 ∧ (i + 1 < s.size ∧ n1 / 64 = 2) ∧ (i + 2 < s.size ∧ n2 / 64 = 2) ∧ (i + 3 < s.size ∧ n3 / 64 = 2) then (if 65536 ≤ (n0 % 8) * 262144 + (n1 % 64) * 4096 + (n2 % 64) * 64 + n3 % 64 ∧ Utf8.valid (((n0 % 8) * 262144 + (n1 % 64) * 4096 + (n2 % 64) * 64 + n3 % 64 : Nat) : Int) = true then ((n0 % 8) * 262144 + (n1 % 64) * 4096 + (n2 % 64) * 64 + n3 % 64, 4) else (65533, 1))
      else (65533, 1)) := by
  refine ⟨(s.get! (i + 0)).toNat, (s.get! (i + 1)).toNat, (s.get! (i + 2)).toNat, (s.get! (i + 3)).toNat, get_byt s i hi, (s.get! _).toNat_lt, (s.get! _).toNat_lt, (s.get! _).toNat_lt, (s.get! _).toNat_lt, fun h => get_byt s _ h, fun h => get_byt s _ h, fun h => get_byt s _ h, ?_⟩
  simp only [Utf8.decode, Bool.and_eq_true, decide_eq_true_eq, beq_iff_eq, ge_iff_le, Utf8.runeError, and_assoc]
theorem valid_iff (n : Nat) : Utf8.valid (n : Int) = true ↔ (n < 55296 ∨ 57344 ≤ n ∧ n ≤ 1114111) := by
  simp only [Utf8.valid, Bool.or_eq_true, Bool.and_eq_true, decide_eq_true_eq]; omega
def gen (s : ByteArray) (i : Nat) : Prop := i + 3 ≤ s.size ∧ byt s i = 239 ∧ byt s (i + 1) = 191 ∧ byt s (i + 2) = 189
theorem rhs_ok {s : ByteArray} {i r n : Nat} (hd : Utf8.decode s i = (r, n)) (hr : r ≠ 65533) : (if badAt s i = true then (0 : Int) else ((Utf8.decode s i).2 : Int)) = n := by
  have hb : badAt s i = false := by unfold badAt; rw [hd]; simp [hr]
  rw [hb, hd]; rfl
theorem rhs_bad {s : ByteArray} {i : Nat} (hi : i < s.size) (hd : Utf8.decode s i = (65533, 1)) (hg : ¬ gen s i) : (if badAt s i = true then (0 : Int) else ((Utf8.decode s i).2 : Int)) = 0 := by
  have hb : badAt s i = true := by unfold badAt; rw [hd, pre_fffd s i hi]; unfold gen at hg; simp [hg]
  rw [hb]; rfl
theorem rhs_gen {s : ByteArray} {i n : Nat} (hi : i < s.size) (hd : Utf8.decode s i = (65533, n)) (hg : gen s i) : (if badAt s i = true then (0 : Int) else ((Utf8.decode s i).2 : Int)) = n := by
  have hb : badAt s i = false := by unfold badAt; rw [hd, pre_fffd s i hi]; unfold gen at hg; simp [hg]
  rw [hb, hd]; rfl
theorem signL_one (s : ByteArray) (i : Nat) (n : Int) (b k : Nat) (v : Int) (h : (k : Int) < n) : signL s i n (b + 1) k v = if byt s (i + k) < 128 ∨ 191 < byt s (i + k) then -1 else signL s i n b (k + 1) (v * 64 + byt s (i + k) - 128) := by
  simp only [signL]; rw [if_pos h]
/-- The value of a sequence of two, three, four bytes, or -1. -/
theorem signL2 (s : ByteArray) (i n1 : Nat) (v : Int) (h1 : (n1 : Int) = byt s (i + 1)) (l1 : n1 < 256) : signL s i 2 4 1 v = if n1 / 64 = 2 then v * 64 + n1 - 128 else -1 := by
  rw [signL_one s i 2 3 1 _ (by omega), ← h1]
  by_cases g : n1 / 64 = 2
  · rw [if_neg (by omega), signL_end s i 2 3 2 _ (by omega), if_pos g]
  · rw [if_pos (by omega), if_neg g]
theorem signL3 (s : ByteArray) (i n1 n2 : Nat) (v : Int) (h1 : (n1 : Int) = byt s (i + 1)) (l1 : n1 < 256) (h2 : (n2 : Int) = byt s (i + 2)) (l2 : n2 < 256) : signL s i 3 4 1 v = if n1 / 64 = 2 ∧ n2 / 64 = 2 then (v * 64 + n1 - 128) * 64 + n2 - 128 else -1 := by
  rw [signL_one s i 3 3 1 _ (by omega), ← h1]
  by_cases g : n1 / 64 = 2
  · rw [if_neg (by omega), signL_one s i 3 2 2 _ (by omega), ← h2]
    by_cases g' : n2 / 64 = 2
    · rw [if_neg (by omega), signL_end s i 3 2 3 _ (by omega), if_pos ⟨g, g'⟩]
    · rw [if_pos (by omega), if_neg (by omega)]
  · rw [if_pos (by omega), if_neg (by omega)]
theorem signL4 (s : ByteArray) (i n1 n2 n3 : Nat) (v : Int) (h1 : (n1 : Int) = byt s (i + 1)) (l1 : n1 < 256) (h2 : (n2 : Int) = byt s (i + 2)) (l2 : n2 < 256) (h3 : (n3 : Int) = byt s (i + 3)) (l3 : n3 < 256) : signL s i 4 4 1 v = if n1 / 64 = 2 ∧ n2 / 64 = 2 ∧ n3 / 64 = 2 then ((v * 64 + n1 - 128) * 64 + n2 - 128) * 64 + n3 - 128 else -1 := by
  rw [signL_one s i 4 3 1 _ (by omega), ← h1]
  by_cases g : n1 / 64 = 2
  · rw [if_neg (by omega), signL_one s i 4 2 2 _ (by omega), ← h2]
    by_cases g' : n2 / 64 = 2
    · rw [if_neg (by omega), signL_one s i 4 1 3 _ (by omega), ← h3]
      by_cases g'' : n3 / 64 = 2
      · rw [if_neg (by omega), signL_end s i 4 1 4 _ (by omega), if_pos ⟨g, g', g''⟩]
      · rw [if_pos (by omega), if_neg (by omega)]
    · rw [if_pos (by omega), if_neg (by omega)]
  · rw [if_pos (by omega), if_neg (by omega)]
theorem formedV_eq (s : ByteArray) (i : Nat) (hi : i < s.size) : formedV s i = if badAt s i = true then 0 else ((Utf8.decode s i).2 : Int) := by
  obtain ⟨n0, n1, n2, n3, h0, l0, l1, l2, l3, h1, h2, h3, hd⟩ := decode_cases s i hi
  have hw : wide (byt s i) = wide n0 := by rw [h0]
  unfold formedV
  rw [hw]
  by_cases c1 : n0 < 128
  · have e : wide n0 = 1 := by unfold wide; rw [if_pos (by omega)]
    rw [if_pos c1] at hd
    rw [e, rhs_ok hd (by omega), if_pos (by omega)]
    rfl
  · rw [if_neg c1] at hd
    by_cases c2 : n0 < 192
    · have e : wide n0 = 0 := by unfold wide; rw [if_neg (by omega), if_pos (by omega)]
      rw [if_neg (by omega), if_neg (by omega), if_neg (by omega)] at hd
      rw [e, rhs_bad hi hd (by unfold gen; omega), if_pos (by omega)]
    · by_cases c3 : n0 < 224
      · have e : wide n0 = 2 := by unfold wide; rw [if_neg (by omega), if_neg (by omega), if_pos (by omega)]
        have ef : first 2 = 192 := rfl
        have es : short (Int.toNat 2) = 128 := rfl
        rw [e, if_neg (by omega), ef, es, ← h0]
        by_cases g1 : i + 1 < s.size
        · rw [if_neg (by omega), signL2 s i n1 _ (h1 g1) l1]
          by_cases g2 : n1 / 64 = 2
          · rw [if_pos g2]
            rw [if_pos ⟨by omega, g1, g2⟩] at hd
            by_cases g3 : 128 ≤ (n0 % 32) * 64 + n1 % 64
            · rw [if_pos g3] at hd
              rw [rhs_ok hd (by omega), if_neg (by omega)]; rfl
            · rw [if_neg g3] at hd
              rw [rhs_bad hi hd (by unfold gen; omega), if_pos (by omega)]
          · rw [if_neg g2]
            rw [if_neg (by omega), if_neg (by omega), if_neg (by omega)] at hd
            rw [rhs_bad hi hd (by unfold gen; omega), if_pos (by omega)]
        · rw [if_pos (by omega)]
          rw [if_neg (by omega), if_neg (by omega), if_neg (by omega)] at hd
          rw [rhs_bad hi hd (by unfold gen; omega)]
      · by_cases c4 : n0 < 240
        · have e : wide n0 = 3 := by unfold wide; rw [if_neg (by omega), if_neg (by omega), if_neg (by omega), if_pos (by omega)]
          have ef : first 3 = 224 := rfl
          have es : short (Int.toNat 3) = 2048 := rfl
          rw [e, if_neg (by omega), ef, es, ← h0]
          rw [if_neg (by omega)] at hd
          by_cases g1 : i + 2 < s.size
          · rw [if_neg (by omega), signL3 s i n1 n2 _ (h1 (by omega)) l1 (h2 g1) l2]
            have hh1 := h1 (by omega)
            have hh2 := h2 g1
            by_cases g2 : n1 / 64 = 2 ∧ n2 / 64 = 2
            · rw [if_pos g2]
              rw [if_pos ⟨by omega, ⟨by omega, g2.1⟩, g1, g2.2⟩] at hd
              have hv := valid_iff ((n0 % 16) * 4096 + (n1 % 64) * 64 + n2 % 64)
              by_cases g4 : 2048 ≤ (n0 % 16) * 4096 + (n1 % 64) * 64 + n2 % 64 ∧ Utf8.valid (((n0 % 16) * 4096 + (n1 % 64) * 64 + n2 % 64 : Nat) : Int) = true
              · rw [if_pos g4] at hd
                rw [hv] at g4
                by_cases g5 : (n0 % 16) * 4096 + (n1 % 64) * 64 + n2 % 64 = 65533
                · rw [g5] at hd
                  rw [rhs_gen hi hd (by unfold gen; omega), if_neg (by omega)]; rfl
                · rw [rhs_ok hd g5, if_neg (by omega)]; rfl
              · rw [if_neg g4] at hd
                rw [hv] at g4
                rw [rhs_bad hi hd (by unfold gen; omega), if_pos (by omega)]
            · rw [if_neg g2]
              rw [if_neg (by omega), if_neg (by omega)] at hd
              rw [rhs_bad hi hd (by unfold gen; omega), if_pos (by omega)]
          · rw [if_pos (by omega)]
            rw [if_neg (by omega), if_neg (by omega)] at hd
            rw [rhs_bad hi hd (by unfold gen; omega)]
        · by_cases c5 : n0 < 248
          · have e : wide n0 = 4 := by unfold wide; rw [if_neg (by omega), if_neg (by omega), if_neg (by omega), if_neg (by omega), if_pos (by omega)]
            have ef : first 4 = 240 := rfl
            have es : short (Int.toNat 4) = 65536 := rfl
            rw [e, if_neg (by omega), ef, es, ← h0]
            rw [if_neg (by omega), if_neg (by omega)] at hd
            by_cases g1 : i + 3 < s.size
            · rw [if_neg (by omega), signL4 s i n1 n2 n3 _ (h1 (by omega)) l1 (h2 (by omega)) l2 (h3 g1) l3]
              by_cases g2 : n1 / 64 = 2 ∧ n2 / 64 = 2 ∧ n3 / 64 = 2
              · rw [if_pos g2]
                rw [if_pos ⟨by omega, ⟨by omega, g2.1⟩, ⟨by omega, g2.2.1⟩, g1, g2.2.2⟩] at hd
                have hv := valid_iff ((n0 % 8) * 262144 + (n1 % 64) * 4096 + (n2 % 64) * 64 + n3 % 64)
                by_cases g4 : 65536 ≤ (n0 % 8) * 262144 + (n1 % 64) * 4096 + (n2 % 64) * 64 + n3 % 64 ∧ Utf8.valid (((n0 % 8) * 262144 + (n1 % 64) * 4096 + (n2 % 64) * 64 + n3 % 64 : Nat) : Int) = true
                · rw [if_pos g4] at hd
                  rw [hv] at g4
                  rw [rhs_ok hd (by omega), if_neg (by omega)]; rfl
                · rw [if_neg g4] at hd
                  rw [hv] at g4
                  rw [rhs_bad hi hd (by unfold gen; omega), if_pos (by omega)]
              · rw [if_neg g2]
                rw [if_neg (by omega)] at hd
                rw [rhs_bad hi hd (by unfold gen; omega), if_pos (by omega)]
            · rw [if_pos (by omega)]
              rw [if_neg (by omega)] at hd
              rw [rhs_bad hi hd (by unfold gen; omega)]
          · have e : wide n0 = 0 := by unfold wide; rw [if_neg (by omega), if_neg (by omega), if_neg (by omega), if_neg (by omega), if_neg (by omega)]
            rw [if_neg (by omega), if_neg (by omega), if_neg (by omega)] at hd
            rw [e, rhs_bad hi hd (by unfold gen; omega), if_pos (by omega)]
end Nm
end Go.Proofs.Ytpkeabggkeecaaa
