/- Layer 4, plain: Check of the package and of its reference (as the kit's print tells them) answer alike. Condition: the list holds bytes. -/
import Derived.Test.YtdnkbpfgbpnofaaPBitsetChecksx
set_option linter.unusedVariables false
set_option linter.unusedSimpArgs false
namespace Go.Proofs.Ytdnkbpfgbpnofaa.PBitsetChecks
open Go.RowKit Go.Proofs.YtdnkbpfgbpnofaaW.PrintWords Go.Proofs.YtdnkbpfgbpnofaaW.PrintLast Go.Proofs.YtdnkbpfgbpnofaaW.PrintMore
theorem masks : ∀ k : Fin 8, ∀ b : Fin 256, (Go.bits .and .u8 ((b.val : Nat) : Int) (shr .u8 255 ((k.val : Nat) : Int)) = 0 ↔ Int.tmod ((b.val : Nat) : Int) (2 * ((128 / 2 ^ k.val : Nat) : Int)) = 0) := by decide +kernel
theorem weight_eq : ∀ k : Fin 8, torrentref4_weight.l0 9 ((k.val : Nat) : Int) 128 0 = some ((128 / 2 ^ k.val : Nat) : Int) := by decide +kernel
theorem weight_pos : ∀ k : Fin 8, 0 < 128 / 2 ^ k.val ∧ 128 / 2 ^ k.val ≤ 128 := by decide +kernel
theorem wrap64_in (n : Int) (h : -9223372036854775808 ≤ n ∧ n ≤ 9223372036854775807) : wrap64 n = n := by unfold wrap64; omega
theorem tmod_nat (m : Nat) : Int.tmod (m : Int) 8 = ((m % 8 : Nat) : Int) := rfl
theorem tdiv_nat (m : Nat) : Int.tdiv (m : Int) 8 = ((m / 8 : Nat) : Int) := rfl
theorem weight_mod (m : Nat) : ∀ (b : Nat) (x y : Int), torrentref4_weight.l0 b (m : Int) x y = torrentref4_weight.l0 b ((m % 8 : Nat) : Int) x y
  | 0, _, _ => rfl
  | b + 1, x, y => by
    simp only [torrentref4_weight.l0]
    rw [weight_mod m b, tmod_nat, tmod_nat, Nat.mod_mod]
theorem check_eq (n : Int) (l : List Int) (hb : ∀ x ∈ l, 0 ≤ x ∧ x ≤ 255) : ∃ r, bitset_Check.f 1 n l = some r ∧ torrentref4_Check.f 10 n l = some r := by
  unfold bitset_Check.f torrentref4_Check.f
  by_cases h0 : n < 0
  · exact ⟨40, by rw [if_pos h0]; rfl, by rw [if_pos h0]; rfl⟩
  by_cases h1 : n > 65536
  · exact ⟨40, by rw [if_neg h0, decide_eq_true h1]; rfl, by rw [if_neg h0, decide_eq_true h1]; rfl⟩
  rw [if_neg h0, if_neg h0, decide_eq_false h1]
  obtain ⟨m, rfl⟩ : ∃ m : Nat, n = m := ⟨n.toNat, by omega⟩
  have s1 : bitset_size.f m = some (((m + 7) / 8 : Nat) : Int) := by
    unfold bitset_size.f
    rw [show wrap64 ((m : Int) + 7) = ((m + 7 : Nat) : Int) from by rw [wrap64_in _ (by omega)]; omega, tdiv_nat, wrap64_in _ (by omega)]
  have s2 : torrentref4_size.f m = some (((m + 7) / 8 : Nat) : Int) := by
    unfold torrentref4_size.f
    have e0 : wrap64 ((m / 8 : Nat) : Int) = ((m / 8 : Nat) : Int) := wrap64_in _ (by omega)
    rw [tmod_nat, tdiv_nat, e0]
    split
    · rw [wrap64_in _ (by omega)]; congr 1; omega
    · congr 1; omega
  simp only [bitset_Check.j0, torrentref4_Check.j0, s1, s2, Option.bind_some, Bool.false_eq_true, if_false]
  by_cases hl : l.length = (m + 7) / 8
  · have hl1 : (l.length : Int) = (((m + 7) / 8 : Nat) : Int) := by omega
    rw [if_pos hl1, if_pos hl1, tmod_nat, tdiv_nat]
    by_cases h8 : m % 8 = 0
    · exact ⟨0, by rw [if_pos (by omega)], by rw [if_neg (by omega)]⟩
    · have e1 : wrap64 (((m / 8 : Nat) : Int)) = ((m / 8 : Nat) : Int) := wrap64_in _ (by omega)
      have e2 : wrap64 ((l.length : Int) - 1) = ((m / 8 : Nat) : Int) := by rw [wrap64_in _ (by omega)]; omega
      have c1 : (0 : Int) ≤ ((m / 8 : Nat) : Int) := by omega
      have c2 : ((m / 8 : Nat) : Int) < (l.length : Int) := by omega
      have c3 : (0 : Int) ≤ ((m % 8 : Nat) : Int) := by omega
      rw [if_neg (by omega), if_pos (by omega : ((m % 8 : Nat) : Int) > 0), e1, e2, if_pos c1, if_pos c2, if_pos c3, if_pos c1, if_pos c2]
      have hk : m % 8 < 8 := by omega
      have hw : torrentref4_weight.f 9 (m : Int) = some ((128 / 2 ^ (m % 8) : Nat) : Int) := by
        unfold torrentref4_weight.f
        rw [weight_mod]
        exact weight_eq ⟨m % 8, hk⟩
      have hp := weight_pos ⟨m % 8, hk⟩
      have hp1 : 0 < 128 / 2 ^ (m % 8) ∧ 128 / 2 ^ (m % 8) ≤ 128 := hp
      have e3 : wrap64 (2 * ((128 / 2 ^ (m % 8) : Nat) : Int)) = 2 * ((128 / 2 ^ (m % 8) : Nat) : Int) := wrap64_in _ (by omega)
      have c4 : ¬ 2 * ((128 / 2 ^ (m % 8) : Nat) : Int) = 0 := by omega
      rw [hw, Option.bind_some, e3, if_neg c4]
      have hmem : rd l ((m / 8 : Nat) : Int) ∈ l := by
        unfold rd
        rw [Int.toNat_natCast, List.getD_eq_getElem?_getD, List.getElem?_eq_getElem (by omega)]
        exact List.getElem_mem _
      obtain ⟨g1, g2⟩ := hb _ hmem
      generalize rd l ((m / 8 : Nat) : Int) = x at *
      obtain ⟨b, rfl⟩ : ∃ b : Nat, x = b := ⟨x.toNat, by omega⟩
      have hm := masks ⟨m % 8, hk⟩ ⟨b, by omega⟩
      simp only at hm
      have e4 : wrap64 ((b : Nat) : Int) = ((b : Nat) : Int) := wrap64_in _ (by omega)
      rw [e4]
      by_cases hz : Int.tmod ((b : Nat) : Int) (2 * ((128 / 2 ^ (m % 8) : Nat) : Int)) = 0
      · exact ⟨0, by rw [if_pos (hm.2 hz)], by rw [if_pos hz]⟩
      · exact ⟨42, by rw [if_neg (fun e => hz (hm.1 e))], by rw [if_neg hz]⟩
  · have hl1 : ¬ (l.length : Int) = (((m + 7) / 8 : Nat) : Int) := by omega
    exact ⟨41, by rw [if_neg hl1], by rw [if_neg hl1]⟩
theorem rd_step (l : List Int) (k : Nat) (h : k < l.length) : l.take (k + 1) = l.take k ++ [rd l (k : Int)] := by
  unfold rd
  rw [Int.toNat_natCast, List.getD_eq_getElem?_getD, List.getElem?_eq_getElem h, Option.getD_some, List.take_succ_eq_append_getElem h]
theorem same_refl (l : List Int) (hl : l.length ≤ 140737488351232) : ∃ k, torrentlaw4_sameBytes.f k l l = some true := by
  have : ∀ b i : Nat, l.length ≤ i + b → torrentlaw4_sameBytes.l0 (b + 1) l l (i : Int) = some true := by
    intro b
    induction b with
    | zero => intro i hi; simp only [torrentlaw4_sameBytes.l0]; rw [if_neg (by omega)]
    | succ b ih =>
      intro i hi
      rw [torrentlaw4_sameBytes.l0]
      by_cases h : (i : Int) < (l.length : Int)
      · rw [if_pos h, if_pos (by omega), if_pos h, if_pos rfl, wrap64_in _ (by omega), show (i : Int) + 1 = ((i + 1 : Nat) : Int) by omega]
        exact ih (i + 1) (by omega)
      · rw [if_neg h]
  exact ⟨l.length + 1, by unfold torrentlaw4_sameBytes.f; rw [if_pos rfl]; exact this l.length 0 (by omega)⟩
end Go.Proofs.Ytdnkbpfgbpnofaa.PBitsetChecks
