/- Layer 14, plain: what Need answers. -/
import Derived.Test.YtjeeakhgjcbhaaaSn
import Derived.Test.YtjeeakhgjcbhaaaPStoreNeedsx
set_option linter.unusedVariables false
set_option linter.unusedSimpArgs false
namespace Go.Proofs.Ytjeeakhgjcbhaaa
open Go.RowKit Go.Proofs.YtjeeakhgjcbhaaaW.PrintWords
namespace Sn
open Wd Fl P2 PStoreNeeds
theorem w64 {x : Int} (h1 : -9223372036854775808 ≤ x) (h2 : x ≤ 9223372036854775807) : wrap64 x = x := by unfold wrap64; omega
theorem refGood_val (b wd : Int) : torrentref1_Good.f 10 b wd = some (scE b wd) := by
  unfold torrentref1_Good.f scE powB pows
  have e : ∀ x y : Int, x = y ↔ y = x := fun x y => eq_comm
  by_cases h1 : wd < 1
  · by_cases h2 : 32 < wd
    · omega
    · simp [torrentref1_Good.l0, wrap64, List.range_succ, h1, h2]
      repeat' split
      all_goals first | rfl | omega
  · by_cases h2 : 32 < wd
    · simp [torrentref1_Good.l0, wrap64, List.range_succ, h1, h2]
      repeat' split
      all_goals first | rfl | omega
    · simp [torrentref1_Good.l0, wrap64, List.range_succ, h1, h2]
      repeat' split
      all_goals first | rfl | omega
theorem good_val (b wd : Int) : digest_Good.f 1 b wd = some (scE b wd) := by
  unfold digest_Good.f scE
  by_cases h1 : b < 64
  · rw [if_pos h1, powB_lo (by simpa using h1)]; simp [digest_Good.j0]
  · rw [if_neg h1]
    by_cases h2 : b > 16384
    · rw [if_pos h2, powB_hi (by simpa using h2)]; simp [digest_Good.j0]
    · rw [if_neg h2, w64 (by omega) (by omega), and_pow 6 9 (by omega) (by omega) b (by simp; omega) (by simp; omega)]
      cases powB 6 9 b with
      | false => simp [digest_Good.j0]
      | true =>
        simp only [digest_Good.j0]
        by_cases h3 : wd < 1
        · rw [if_neg (by simp), if_pos h3, if_neg (by omega)]
        · by_cases h4 : wd > 32
          · rw [if_neg (by simp), if_neg h3, if_pos h4, if_neg (by omega)]
          · rw [if_neg (by simp), if_neg h3, if_neg h4, if_pos ⟨by simp, by omega, by omega⟩]
theorem leaves_val (n : Int) : torrentref14_leaves.f 12 n = some (powB 0 11 n) := by
  unfold torrentref14_leaves.f powB pows
  simp [torrentref14_leaves.l0, wrap64, List.range_succ]
  repeat' split
  all_goals simp_all
def secV (n : Int) : Int := (n + 63) / 64
theorem sec_eq {n : Int} (h1 : 1 ≤ n) (h2 : n ≤ 16777216) : wrap64 (Int.tdiv (wrap64 ((wrap64 (n + 64)) - 1)) 64) = secV n := by
  rw [w64 (x := n + 64) (by omega) (by omega), w64 (x := n + 64 - 1) (by omega) (by omega)]
  have : Int.tdiv (n + 64 - 1) 64 = (n + 64 - 1) / 64 := Int.tdiv_eq_ediv_of_nonneg (by omega)
  unfold secV
  rw [this, w64 (by omega) (by omega)]
  omega
def okP (b : Int) (p : Pc) : Bool := powB 0 11 p.leaves && decide (1 ≤ p.len) && decide (p.len ≤ p.leaves * b)
def fitB (b : Int) (xs : List Pc) : Bool := decide (xs.length ≤ 65536) && xs.all (okP b)
def total (xs : List Pc) : Int := (xs.map fun p => secV p.len).foldr (· + ·) 0
theorem total_nil : total [] = 0 := rfl
theorem total_snoc (xs : List Pc) (p : Pc) : total (xs ++ [p]) = total xs + secV p.len := by
  unfold total
  induction xs with
  | nil => simp
  | cons x xs ih => simp only [List.cons_append, List.map_cons, List.foldr_cons, ih]; omega
theorem pow11 {n : Int} (h : powB 0 11 n = true) : 1 ≤ n ∧ n ≤ 1024 := by
  obtain ⟨k, hk, rfl⟩ := (powB_iff _ _ _).1 h
  have h1 := Nat.two_pow_pos (0 + k)
  have h2 : 2 ^ (0 + k) ≤ 2 ^ 10 := Nat.pow_le_pow_right (by omega) (by omega)
  omega
theorem pow9 {n : Int} (h : powB 6 9 n = true) : 64 ≤ n ∧ n ≤ 16384 := by
  obtain ⟨k, hk, rfl⟩ := (powB_iff _ _ _).1 h
  have h1 : 2 ^ 6 ≤ 2 ^ (6 + k) := Nat.pow_le_pow_right (by omega) (by omega)
  have h2 : 2 ^ (6 + k) ≤ 2 ^ 14 := Nat.pow_le_pow_right (by omega) (by omega)
  omega
theorem mul_bd {l b : Int} (h1 : 1 ≤ l) (h2 : l ≤ 1024) (h3 : 64 ≤ b) (h4 : b ≤ 16384) : 0 ≤ l * b ∧ l * b ≤ 16777216 := by
  refine ⟨Int.mul_nonneg (by omega) (by omega), ?_⟩
  calc l * b ≤ 1024 * 16384 := Int.mul_le_mul h2 h4 (by omega) (by omega)
    _ = 16777216 := by decide
theorem okP_len {b : Int} {p : Pc} (hb : 64 ≤ b ∧ b ≤ 16384) (h : okP b p = true) : 1 ≤ p.len ∧ p.len ≤ 16777216 := by
  unfold okP at h
  simp only [Bool.and_eq_true, decide_eq_true_eq] at h
  have h1 := pow11 h.1.1
  have := (mul_bd h1.1 h1.2 hb.1 hb.2).2
  omega
theorem total_bd {b : Int} (hb : 64 ≤ b ∧ b ≤ 16384) : ∀ (xs : List Pc), xs.all (okP b) = true → 0 ≤ total xs ∧ total xs ≤ xs.length * 262144
  | [], _ => by simp [total]
  | x :: xs, h => by
    rw [List.all_cons, Bool.and_eq_true] at h
    have ih := total_bd hb xs h.2
    have hx := okP_len hb h.1
    have e : total (x :: xs) = secV x.len + total xs := rfl
    rw [e]
    unfold secV
    simp only [List.length_cons]
    omega
def needE (b wd : Int) (xs : List Pc) : Int := if scE b wd = 0 then (if fitB b xs = true then 0 else 142) else 10
def needN (b wd : Int) (xs : List Pc) : Int := if needE b wd xs = 0 then xs.length + 4 + total xs else 0
end Sn
end Go.Proofs.Ytjeeakhgjcbhaaa
