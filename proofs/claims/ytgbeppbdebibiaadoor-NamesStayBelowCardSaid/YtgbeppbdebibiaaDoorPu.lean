/- Layer 5, plain: where the first fault of a text that is put together lies. No walk. -/
import Derived.Test.YtgbeppbdebibiaaDoorNd
set_option linter.unusedVariables false
set_option linter.unusedSimpArgs false
namespace Go.Proofs.YtgbeppbdebibiaaDoor
open Go.RowKit Go.Proofs.YtgbeppbdebibiaaDoorW.PrintWords
namespace Nm
open Wd
theorem byt_left (a b : ByteArray) (i : Nat) (h : i < a.size) : byt (a ++ b) i = byt a i := by
  have h2 : i < (a ++ b).size := by rw [ByteArray.size_append]; omega
  rw [← byt_eq a i h, ← byt_eq (a ++ b) i h2, ByteArray.getElem_append_left h]
theorem byt_right (a b : ByteArray) (j : Nat) : byt (a ++ b) (a.size + j) = byt b j := by
  by_cases h : j < b.size
  · have h2 : a.size + j < (a ++ b).size := by rw [ByteArray.size_append]; omega
    rw [← byt_eq b j h, ← byt_eq (a ++ b) _ h2, ByteArray.getElem_append_right (by omega)]
    simp
  · have h2 : ¬ a.size + j < (a ++ b).size := by rw [ByteArray.size_append]; omega
    simp [byt, h, h2]
theorem signL_local (s s' : ByteArray) (i i' : Nat) (n : Int) : ∀ (b k : Nat) (v : Int), (∀ j : Nat, k ≤ j → (j : Int) < n → byt s (i + j) = byt s' (i' + j)) → signL s i n b k v = signL s' i' n b k v
  | 0, _, _, _ => rfl
  | b + 1, k, v, h => by
    simp only [signL]
    split
    · rw [h k (Nat.le_refl _) (by assumption), signL_local s s' i i' n b (k + 1) _ (fun j h1 h2 => h j (by omega) h2)]
    · rfl
theorem signL_bad (s : ByteArray) (i : Nat) (n : Int) (q : Nat) (hq : (q : Int) < n) (h : byt s (i + q) < 128) : ∀ (b k : Nat) (v : Int), k ≤ q → n ≤ k + b → signL s i n b k v = -1
  | 0, k, v, h1, h2 => by omega
  | b + 1, k, v, h1, h2 => by
    simp only [signL]
    rw [if_pos (by omega)]
    split
    · rfl
    · rename_i hn
      refine signL_bad s i n q hq h b (k + 1) _ ?_ (by omega)
      rcases Nat.lt_or_ge k q with hk | hk
      · omega
      · obtain rfl : k = q := by omega
        exact absurd (.inl h) hn
theorem formed_local (s s' : ByteArray) (i i' : Nat) (h0 : byt s i = byt s' i') (hz : (s.size : Int) < i + wide (byt s i) ↔ (s'.size : Int) < i' + wide (byt s i))
    (h : (i : Int) + wide (byt s i) ≤ s.size → ∀ j : Nat, 1 ≤ j → (j : Int) < wide (byt s i) → byt s (i + j) = byt s' (i' + j)) : formedV s i = formedV s' i' := by
  unfold formedV
  rw [← h0]
  split
  · rfl
  · by_cases hb : (s.size : Int) < i + wide (byt s i)
    · rw [if_pos hb, if_pos (hz.1 hb)]
    · rw [if_neg hb, if_neg (fun e => hb (hz.2 e)), signL_local s s' i i' _ 4 1 _ (fun j h1 h2 => h (by omega) j h1 h2)]
theorem formed_range (s : ByteArray) (i : Nat) (hi : i < s.size) : 0 ≤ formedV s i ∧ (i : Int) + formedV s i ≤ s.size ∧ (formedV s i = 0 ∨ formedV s i = wide (byt s i)) := by
  have := wide_le (byt s i)
  unfold formedV
  repeat' split
  all_goals omega
theorem formed_left (a c : ByteArray) (i : Nat) (hi : i < a.size) (h : formedV a i ≠ 0) : formedV (a ++ c) i = formedV a i := by
  obtain ⟨_, h2, h3⟩ := formed_range a i hi
  have h4 := h3.resolve_left h
  rw [h4] at h2
  refine (formed_local a (a ++ c) i i (byt_left a c i hi).symm ?_ fun _ j h1 hj => (byt_left a c (i + j) (by omega)).symm).symm
  rw [ByteArray.size_append]
  omega
theorem formed_right (a c : ByteArray) (j : Nat) : formedV (a ++ c) (a.size + j) = formedV c j := by
  refine formed_local _ _ _ _ (byt_right a c j) ?_ fun _ k h1 hj => ?_
  · rw [ByteArray.size_append]; omega
  · rw [Nat.add_assoc]; exact byt_right a c (j + k)
theorem formed_fault (a c : ByteArray) (i : Nat) (hi : i < a.size) (hc : 0 < c.size) (h1 : byt c 0 < 128) (h : formedV a i = 0) : formedV (a ++ c) i = 0 := by
  have hw := wide_le (byt a i)
  by_cases hz : (a.size : Int) < i + wide (byt a i)
  · have hb : byt (a ++ c) i = byt a i := byt_left a c i hi
    unfold formedV
    rw [hb]
    by_cases h2 : wide (byt a i) < 2
    · omega
    · rw [if_neg h2]
      by_cases h3 : ((a ++ c).size : Int) < i + wide (byt a i)
      · rw [if_pos h3]
      · rw [if_neg h3]
        have e : byt (a ++ c) (i + (a.size - i)) < 128 := by
          rw [show i + (a.size - i) = a.size + 0 by omega, byt_right]; exact h1
        rw [signL_bad (a ++ c) i (wide (byt a i)) (a.size - i) (by omega) e 4 1 _ (by omega) (by omega)]
        rw [if_pos (.inl (by unfold short; repeat' split <;> omega))]
  · rw [← h]
    refine (formed_local a (a ++ c) i i (byt_left a c i hi).symm ?_ fun _ j h1 hj => (byt_left a c (i + j) (by omega)).symm).symm
    rw [ByteArray.size_append]
    omega
/-- The first fault, by the sequences' widths. -/
theorem sgn_step (s : ByteArray) (b i : Nat) (hi : i < s.size) : sgn s (b + 1) i = if formedV s i = 0 then (i : Int) else sgn s b (i + (formedV s i).toNat) := by
  have hw := width_pos s i hi
  simp only [sgn, if_pos hi]
  rw [formedV_eq s i hi]
  by_cases hb : badAt s i = true
  · simp [hb]
  · rw [if_neg hb, if_neg hb, if_neg (by omega)]
    simp
theorem sgn_fuel (s : ByteArray) : ∀ (b i b' : Nat), s.size ≤ i + b → s.size ≤ i + b' → sgn s b i = sgn s b' i
  | 0, i, b', h, _ => by rw [sgn_end s b' i (by omega)]; rfl
  | b + 1, i, b', h, h' => by
    by_cases hi : i < s.size
    · obtain ⟨b', rfl⟩ : ∃ m, b' = m + 1 := ⟨b' - 1, by omega⟩
      have hr := formed_range s i hi
      rw [sgn_step s b i hi, sgn_step s b' i hi]
      split
      · rfl
      · exact sgn_fuel s b _ b' (by omega) (by omega)
    · rw [sgn_end s _ i hi, sgn_end s _ i hi]
/-- The first fault of a text, or -1. -/
def fault (s : ByteArray) : Int := sgn s s.size 0
theorem sgn_range (s : ByteArray) : ∀ (b i : Nat), sgn s b i = -1 ∨ (i : Int) ≤ sgn s b i ∧ sgn s b i < s.size
  | 0, i => .inl rfl
  | b + 1, i => by
    by_cases hi : i < s.size
    · have hr := formed_range s i hi
      rw [sgn_step s b i hi]
      split
      · exact .inr ⟨by omega, by omega⟩
      · rcases sgn_range s b (i + (formedV s i).toNat) with h | h
        · exact .inl h
        · exact .inr (by omega)
    · exact .inl (sgn_end s _ i hi)
theorem sgn_right (a c : ByteArray) : ∀ (b j : Nat), sgn (a ++ c) b (a.size + j) = if sgn c b j = -1 then -1 else a.size + sgn c b j
  | 0, j => rfl
  | b + 1, j => by
    by_cases hj : j < c.size
    · have h2 : a.size + j < (a ++ c).size := by rw [ByteArray.size_append]; omega
      rw [sgn_step _ b _ h2, sgn_step c b j hj, formed_right]
      split
      · rw [if_neg (by omega)]; omega
      · rw [Nat.add_assoc]; exact sgn_right a c b _
    · rw [sgn_end c _ j hj, sgn_end _ _ _ (by rw [ByteArray.size_append]; omega)]; rfl
theorem sgn_pass (a c : ByteArray) : ∀ (b i : Nat), i ≤ a.size → a.size ≤ i + b → sgn a b i = -1 → sgn (a ++ c) (b + c.size) i = sgn (a ++ c) c.size a.size
  | 0, i, h1, h2, _ => by
    obtain rfl : i = a.size := by omega
    rw [Nat.zero_add]
  | b + 1, i, h1, h2, h => by
    by_cases hi : i < a.size
    · have hr := formed_range a i hi
      have hi2 : i < (a ++ c).size := by rw [ByteArray.size_append]; omega
      rw [sgn_step a b i hi] at h
      by_cases h0 : formedV a i = 0
      · rw [if_pos h0] at h; omega
      · rw [if_neg h0] at h
        rw [show b + 1 + c.size = (b + c.size) + 1 by omega, sgn_step _ _ _ hi2, formed_left a c i hi h0, if_neg h0]
        exact sgn_pass a c b _ (by omega) (by omega) h
    · obtain rfl : i = a.size := by omega
      exact sgn_fuel _ _ _ _ (by rw [ByteArray.size_append]; omega) (by rw [ByteArray.size_append]; omega)
theorem sgn_stop (a c : ByteArray) (hc : 0 < c.size) (h1 : byt c 0 < 128) : ∀ (b i : Nat), sgn a b i ≠ -1 → sgn (a ++ c) (b + c.size) i = sgn a b i
  | 0, i, h => absurd rfl h
  | b + 1, i, h => by
    by_cases hi : i < a.size
    · have hi2 : i < (a ++ c).size := by rw [ByteArray.size_append]; omega
      rw [sgn_step a b i hi] at h ⊢
      rw [show b + 1 + c.size = (b + c.size) + 1 by omega, sgn_step _ _ _ hi2]
      by_cases h0 : formedV a i = 0
      · rw [if_pos h0, if_pos (formed_fault a c i hi hc h1 h0)]
      · rw [if_neg h0] at h
        rw [formed_left a c i hi h0, if_neg h0, if_neg h0]
        exact sgn_stop a c hc h1 b _ h
    · exact absurd (sgn_end a _ i hi) h
theorem fault_range (s : ByteArray) : fault s = -1 ∨ 0 ≤ fault s ∧ fault s < s.size := by
  have := sgn_range s s.size 0
  unfold fault
  omega
theorem fault_app {a : ByteArray} (c : ByteArray) (h : fault a = -1) : fault (a ++ c) = if fault c = -1 then -1 else a.size + fault c := by
  unfold fault at *
  rw [ByteArray.size_append, sgn_pass a c a.size 0 (by omega) (by omega) h]
  have := sgn_right a c c.size 0
  rw [Nat.add_zero] at this
  exact this
theorem fault_stop {a : ByteArray} (c : ByteArray) (hc : 0 < c.size) (h1 : byt c 0 < 128) (h : fault a ≠ -1) : fault (a ++ c) = fault a := by
  unfold fault at *
  rw [ByteArray.size_append]
  exact sgn_stop a c hc h1 a.size 0 h
def sM : ByteArray := ⟨#[109]⟩
theorem fault_m : fault sM = -1 := by kernel_rfl
theorem fault_sl : fault ⟨#[47]⟩ = -1 := by kernel_rfl
theorem fault_amb {a : ByteArray} (b : ByteArray) (h : fault a = -1) : fault (a ++ sM ++ b) = if fault b = -1 then -1 else a.size + 1 + fault b := by
  have h2 : fault (a ++ sM) = -1 := by rw [fault_app sM h, fault_m]; rfl
  rw [fault_app b h2, ByteArray.size_append]
  have e : sM.size = 1 := rfl
  rw [e]
  split
  · rfl
  · omega
theorem fault_amb' {a : ByteArray} (b : ByteArray) (h : fault a ≠ -1) : fault (a ++ sM ++ b) = fault a := by
  have e : a ++ sM ++ b = a ++ (sM ++ b) := by simp [ByteArray.append_assoc]
  rw [e]
  have e1 : sM.size = 1 := rfl
  have e2 : byt sM 0 = 109 := by kernel_rfl
  refine fault_stop _ (by rw [ByteArray.size_append]; omega) ?_ h
  rw [byt_left sM b 0 (by omega), e2]
  decide
end Nm
end Go.Proofs.YtgbeppbdebibiaaDoor
