/- Plain: powers of two, as 'n & (n - 1)' finds them. -/
import Derived.Test.YtjeeakhgjcbhaaaWWords
import Derived.Laws.BitsAllLaws
import Derived.Laws.BitsLemmas
set_option linter.unusedVariables false
set_option linter.unusedSimpArgs false
namespace Go.Proofs.Ytjeeakhgjcbhaaa
open Go.RowKit Go.Proofs.YtjeeakhgjcbhaaaW.PrintWords
namespace P2
theorem ofInt_i64 (a : Nat) (ha : a < 9223372036854775808) : (BitVec.ofInt 64 (a : Int)).toNat = a := by
  rw [BitVec.ofInt_natCast, BitVec.toNat_ofNat]; exact Nat.mod_eq_of_lt (by omega)
theorem i64_and_nat (a b : Nat) (ha : a < 9223372036854775808) (hb : b < 9223372036854775808) : Go.bits .and .i64 (a : Int) (b : Int) = ((a &&& b : Nat) : Int) := by
  have hx : a &&& b < 2 ^ 63 := Nat.and_lt_two_pow _ (by omega)
  show IntKind.i64.wrap ((BitVec.ofInt 64 (a : Int) &&& BitVec.ofInt 64 (b : Int)).toNat : Int) = _
  rw [BitVec.toNat_and, ofInt_i64 a ha, ofInt_i64 b hb, IntKind.wrap_i64]
  omega
/-- The powers of two from 2^lo on, n of them. -/
def pows (lo n : Nat) : List Int := (List.range n).map fun k => (((2 ^ (lo + k) : Nat)) : Int)
def powB (lo n : Nat) (x : Int) : Bool := (pows lo n).any fun p => x == p
theorem powB_iff (lo n : Nat) (x : Int) : powB lo n x = true ↔ ∃ k, k < n ∧ x = ((2 ^ (lo + k) : Nat) : Int) := by
  unfold powB pows
  simp only [List.any_map, List.any_eq_true, List.mem_range, Function.comp, beq_iff_eq]
/-- A number from 2^lo to 2^hi is a power of two just if 'n & (n - 1)' is none. -/
theorem and_pow (lo n : Nat) (hn : lo + n ≤ 62) (hn0 : 0 < n) (x : Int) (h1 : ((2 ^ lo : Nat) : Int) ≤ x) (h2 : x ≤ ((2 ^ (lo + (n - 1)) : Nat) : Int)) : (Go.bits .and .i64 x (x - 1) != 0) = !powB lo n x := by
  obtain ⟨a, rfl⟩ : ∃ a : Nat, x = a := ⟨x.toNat, by have := Nat.two_pow_pos lo; omega⟩
  have h1' : 2 ^ lo ≤ a := by exact_mod_cast h1
  have h2' : a ≤ 2 ^ (lo + (n - 1)) := by exact_mod_cast h2
  have hp := Nat.two_pow_pos lo
  have hlt : 2 ^ (lo + (n - 1)) < 2 ^ 62 := Nat.pow_lt_pow_right (by omega) (by omega)
  have e : ((a : Int) - 1) = ((a - 1 : Nat) : Int) := by omega
  rw [e, i64_and_nat a (a - 1) (by omega) (by omega)]
  have key := Nat.and_sub_one_eq_zero_iff_isPowerOfTwo (n := a) (by omega)
  rw [Bool.eq_iff_iff]
  simp only [bne_iff_ne, ne_eq, Bool.not_eq_true', ← Bool.not_eq_true, powB_iff]
  have hz : (((a &&& (a - 1) : Nat) : Int) = 0) ↔ (a &&& (a - 1)) = 0 := by omega
  rw [hz, key]
  refine not_congr ⟨?_, ?_⟩
  · rintro ⟨k, rfl⟩
    have k1 : lo ≤ k := (Nat.pow_le_pow_iff_right (by omega)).1 h1'
    have k2 : k ≤ lo + (n - 1) := (Nat.pow_le_pow_iff_right (by omega)).1 h2'
    exact ⟨k - lo, by omega, by rw [show lo + (k - lo) = k by omega]⟩
  · rintro ⟨k, _, h⟩
    exact ⟨lo + k, by exact_mod_cast h⟩
theorem powB_lo {lo n : Nat} {x : Int} (h : x < ((2 ^ lo : Nat) : Int)) : powB lo n x = false := by
  rw [← Bool.not_eq_true, powB_iff]
  rintro ⟨k, _, rfl⟩
  have : 2 ^ lo ≤ 2 ^ (lo + k) := Nat.pow_le_pow_right (by omega) (by omega)
  omega
theorem powB_hi {lo n : Nat} {x : Int} (h : ((2 ^ (lo + (n - 1)) : Nat) : Int) < x) : powB lo n x = false := by
  rw [← Bool.not_eq_true, powB_iff]
  rintro ⟨k, hk, rfl⟩
  have : 2 ^ (lo + k) ≤ 2 ^ (lo + (n - 1)) := Nat.pow_le_pow_right (by omega) (by omega)
  omega
/-- A scale that may be: 0; else 10. -/
def scE (b wd : Int) : Int := if powB 6 9 b = true ∧ 1 ≤ wd ∧ wd ≤ 32 then 0 else 10
end P2
end Go.Proofs.Ytjeeakhgjcbhaaa
