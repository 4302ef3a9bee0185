/- Layer 5 (names), plain: what meet finds in the tree of the paths so far is the first of them with which the path clashes. No conditions. -/
import Derived.Test.YtpkeabggkeecaaaGrow
set_option linter.unusedVariables false
set_option linter.unusedSimpArgs false
namespace Go.Proofs.Ytpkeabggkeecaaa
open Go.RowKit Go.Proofs.YtpkeabggkeecaaaW.PrintWords
namespace Nm
open Wd Mp
theorem stB_prefix : ∀ (a b : List ByteArray), stB a b = true ↔ bl a <+: bl b
  | [], b => by simp [stB, bl]
  | x :: a, [] => by simp [stB, bl]
  | x :: a, y :: b => by
    have ih := stB_prefix a b
    simp only [stB]
    have e1 : bl (x :: a) = x.toList :: bl a := rfl
    have e2 : bl (y :: b) = y.toList :: bl b := rfl
    rw [e1, e2, List.cons_prefix_cons]
    by_cases h : x.toList = y.toList
    · rw [if_pos (by simpa using h), ih]; simp [h]
    · rw [if_neg (by simpa using h)]; simp [h]
/-- The first of the paths so far that is no good, and how: as paths of bytes. -/
def Bad (Q : List Pth) (p : Pth) (i : Nat) : Prop := ∃ x, Q[i]? = some x ∧ (x <+: p ∨ p <+: x)
theorem bothV_zero (q p : List ByteArray) : bothV q p = 0 ↔ ¬ (bl q <+: bl p ∨ bl p <+: bl q) := by
  unfold bothV
  rw [← stB_prefix, ← stB_prefix]
  by_cases h1 : stB q p = true <;> by_cases h2 : stB p q = true <;> simp [h1, h2]
theorem bothV_same (q p : List ByteArray) (h : bl q = bl p) : bothV q p = 56 := by
  unfold bothV
  rw [if_pos ⟨(stB_prefix _ _).2 (by rw [h]; exact List.prefix_refl _), (stB_prefix _ _).2 (by rw [h]; exact List.prefix_refl _)⟩]
theorem bothV_folder (q p : List ByteArray) (h : bl q ≠ bl p) (h' : bl q <+: bl p ∨ bl p <+: bl q) : bothV q p = 57 := by
  unfold bothV
  rw [if_neg (fun ⟨h1, h2⟩ => h (List.IsPrefix.eq_of_length ((stB_prefix _ _).1 h1) (Nat.le_antisymm ((stB_prefix _ _).1 h1).length_le ((stB_prefix _ _).1 h2).length_le))), if_pos (by rw [stB_prefix, stB_prefix]; exact h')]
theorem find1_none (p : List ByteArray) : ∀ (Q : List (List ByteArray)) (b : Nat), (∀ q ∈ Q, bothV q p = 0) → find1 p Q b = none
  | [], _, _ => rfl
  | q :: Q, b, h => by
    simp only [find1]
    rw [if_pos (h q List.mem_cons_self)]
    exact find1_none p Q (b + 1) (fun x hx => h x (List.mem_cons_of_mem _ hx))
theorem find1_some (p : List ByteArray) : ∀ (Q : List (List ByteArray)) (b i : Nat) (q : List ByteArray), Q[i]? = some q → bothV q p ≠ 0 → (∀ i' x, i' < i → Q[i']? = some x → bothV x p = 0) → find1 p Q b = some (b + i, bothV q p)
  | [], _, _, _, h, _, _ => by simp at h
  | q0 :: Q, b, i, q, h, hn, hb => by
    simp only [find1]
    match i with
    | 0 =>
      simp at h
      subst h
      rw [if_neg hn]; rfl
    | i + 1 =>
      rw [if_pos (hb 0 q0 (by omega) rfl)]
      rw [find1_some p Q (b + 1) i q (by simpa using h) hn (fun i' x hi hx => hb (i' + 1) x (by omega) (by simpa using hx))]
      congr 2; omega
/-- Where a path is first gone through, and where it first ends. -/
def FS (Q : List Pth) (q : Pth) : Int := (Q.findIdx (fun x => q.isPrefixOf x) : Nat)
def EN (Q : List Pth) (q : Pth) : Int := if Q.findIdx (fun x => x == q) < Q.length then (Q.findIdx (fun x => x == q) : Nat) else -1
theorem EN_nonneg {Q : List Pth} {q : Pth} (h : 0 ≤ EN Q q) : ∃ i : Nat, EN Q q = (i : Int) ∧ Q[i]? = some q ∧ ∀ (i' : Nat) (x : Pth), i' < i → Q[i']? = some x → x ≠ q := by
  unfold EN at h ⊢
  split at h
  · rename_i hlt
    rw [if_pos hlt]
    refine ⟨_, rfl, ?_, fun i' x hi hx hxq => ?_⟩
    · have := List.findIdx_getElem (w := hlt)
      rw [List.getElem?_eq_getElem hlt]
      simpa using this
    · have := List.not_of_lt_findIdx hi
      obtain ⟨_, he⟩ := List.getElem?_eq_some_iff.1 hx
      rw [he, hxq] at this
      simp at this
  · omega
theorem EN_neg {Q : List Pth} {q : Pth} (h : EN Q q < 0) : ∀ (i : Nat) (x : Pth), Q[i]? = some x → x ≠ q := by
  intro i x hx hxq
  unfold EN at h
  split at h
  · omega
  · rename_i hlt
    obtain ⟨hi, he⟩ := List.getElem?_eq_some_iff.1 hx
    exact hlt (List.findIdx_lt_length_of_exists ⟨x, by rw [← he]; exact List.getElem_mem hi, by simp [hxq]⟩)
theorem FS_spec (Q : List Pth) (q : Pth) : ∃ i : Nat, FS Q q = (i : Int) ∧ i ≤ Q.length ∧ (i < Q.length → ∃ x, Q[i]? = some x ∧ q <+: x) ∧ ∀ (i' : Nat) (x : Pth), i' < i → Q[i']? = some x → ¬ q <+: x := by
  refine ⟨_, rfl, List.findIdx_le_length, fun hlt => ⟨_, List.getElem?_eq_getElem hlt, ?_⟩, fun i' x hi hx hq => ?_⟩
  · have := List.findIdx_getElem (w := hlt)
    exact List.isPrefixOf_iff_prefix.1 this
  · have := List.not_of_lt_findIdx hi
    obtain ⟨_, he⟩ := List.getElem?_eq_some_iff.1 hx
    rw [he] at this
    simp [List.isPrefixOf_iff_prefix.2 hq] at this
/-- Of the ends that lie on the way to p, above its n-th name: the least. -/
def Best (Q : List Pth) (p : Pth) (n : Nat) (l y : Int) : Prop :=
  (y = 0 ∧ l = Q.length ∧ ∀ (i : Nat) x, Q[i]? = some x → ∀ t, t < n → x ≠ p.take t) ∨
    (y = 57 ∧ ∃ i : Nat, l = i ∧ (∃ x t, Q[i]? = some x ∧ t < n ∧ x = p.take t) ∧ ∀ (i' : Nat) x, i' < i → Q[i']? = some x → ∀ t, t < n → x ≠ p.take t)
theorem best_step {Q : List Pth} {p : Pth} {n : Nat} {l y : Int} (h : Best Q p n l y) : Best Q p (n + 1) (if 0 ≤ EN Q (p.take n) ∧ EN Q (p.take n) < l then EN Q (p.take n) else l) (if 0 ≤ EN Q (p.take n) ∧ EN Q (p.take n) < l then 57 else y) := by
  by_cases hv : 0 ≤ EN Q (p.take n)
  · obtain ⟨i0, he, hx0, hmin⟩ := EN_nonneg hv
    rw [he]
    have hi0 : i0 < Q.length := (List.getElem?_eq_some_iff.1 hx0).1
    by_cases hlt : (i0 : Int) < l
    · rw [if_pos ⟨by omega, hlt⟩, if_pos ⟨by omega, hlt⟩]
      refine .inr ⟨rfl, i0, rfl, ⟨_, n, hx0, by omega, rfl⟩, fun i' x hi' hx t ht => ?_⟩
      by_cases e : t = n
      · rw [e]; exact hmin i' x hi' hx
      · rcases h with ⟨_, _, h⟩ | ⟨_, i, rfl, _, h⟩
        · exact h i' x hx t (by omega)
        · exact h i' x (by omega) hx t (by omega)
    · rw [if_neg (fun h => hlt h.2), if_neg (fun h => hlt h.2)]
      rcases h with ⟨_, h2, _⟩ | ⟨h1, i, rfl, ⟨x, t, hx, ht, hxt⟩, h⟩
      · omega
      · refine .inr ⟨h1, i, rfl, ⟨x, t, hx, by omega, hxt⟩, fun i' x' hi' hx' t' ht' => ?_⟩
        by_cases e : t' = n
        · rw [e]; exact hmin i' x' (by omega) hx'
        · exact h i' x' hi' hx' t' (by omega)
  · have hno := EN_neg (show EN Q (p.take n) < 0 by omega)
    rw [if_neg (fun h => hv h.1), if_neg (fun h => hv h.1)]
    rcases h with ⟨h1, h2, h⟩ | ⟨h1, i, rfl, ⟨x, t, hx, ht, hxt⟩, h⟩
    · refine .inl ⟨h1, h2, fun i x hx t ht => ?_⟩
      by_cases e : t = n
      · rw [e]; exact hno i x hx
      · exact h i x hx t (by omega)
    · refine .inr ⟨h1, i, rfl, ⟨x, t, hx, by omega, hxt⟩, fun i' x' hi' hx' t' ht' => ?_⟩
      by_cases e : t' = n
      · rw [e]; exact hno i' x' hx'
      · exact h i' x' hi' hx' t' (by omega)
/-- What meet has found: nothing, or the first that clashes. -/
def Found (Q : List Pth) (p : Pth) (r : Int × Int) : Prop :=
  (r.2 = 0 ∧ ∀ (i : Nat) x, Q[i]? = some x → ¬ (x <+: p ∨ p <+: x)) ∨
    (∃ (i : Nat) (x : Pth), r.1 = i ∧ Q[i]? = some x ∧ (x <+: p ∨ p <+: x) ∧ (r.2 = if x = p then 56 else 57) ∧ ∀ (i' : Nat) x', i' < i → Q[i']? = some x' → ¬ (x' <+: p ∨ p <+: x'))
theorem take_prefix_iff {p x : Pth} : x <+: p ↔ ∃ t, t ≤ p.length ∧ x = p.take t := by
  constructor
  · intro h
    exact ⟨x.length, h.length_le, (List.prefix_iff_eq_take.1 h)⟩
  · rintro ⟨t, _, rfl⟩
    exact List.take_prefix t p
theorem desc_ok (Q : List Pth) (p : Pth) (loc : Pth → Option (Nat × Nat)) (hdom : ∀ q, (loc q).isSome = true ↔ q = [] ∨ ∃ x ∈ Q, q <+: x) : ∀ (r : Pth) (n : Nat) (l y : Int), p.drop n = r → n ≤ p.length → Best Q p n l y →
    Found Q p (meetEnd (FS Q) (EN Q) Q.length (desc (EN Q) loc r (p.take n) l y))
  | [], n, l, y, hr, hn, hb => by
    have hnp : n = p.length := by have := congrArg List.length hr; simp at this; omega
    subst hnp
    rw [List.take_length]
    simp only [desc, meetEnd]
    obtain ⟨z, hz, hzl, hz1, hz2⟩ := FS_spec Q p
    rw [hz]
    -- proper prefixes of p: those of Best
    have pp : ∀ (i : Nat) x, Q[i]? = some x → x <+: p → x ≠ p → ∃ t, t < p.length ∧ x = p.take t := fun i x hx h hne => by
      obtain ⟨t, ht, he⟩ := take_prefix_iff.1 h
      refine ⟨t, ?_, he⟩
      rcases Nat.lt_or_ge t p.length with h1 | h1
      · exact h1
      · exact absurd (by rw [he, List.take_of_length_le h1]) hne
    by_cases hQ : Q.length = 0
    · have hnil : Q = [] := List.length_eq_zero_iff.1 hQ
      subst hnil
      have hv : EN [] p = -1 := rfl
      rw [hv, if_neg (by omega)]
      rcases hb with ⟨h1, _, _⟩ | ⟨_, i, _, ⟨x, t, hx, _, _⟩, _⟩
      · exact .inl ⟨by simp [h1], fun i x hx => by simp at hx⟩
      · simp at hx
    · by_cases hzl2 : (z : Int) < l
      · have hcond : (0 : Int) < (Q.length : Int) ∧ (z : Int) < l := ⟨by omega, hzl2⟩
        rw [if_pos hcond, if_pos hcond]
        have hzlt : z < Q.length := by
          rcases hb with ⟨_, h2, _⟩ | ⟨_, i, rfl, ⟨x, t, hx, _, _⟩, _⟩
          · omega
          · have := (List.getElem?_eq_some_iff.1 hx).1; omega
        obtain ⟨x, hx, hpx⟩ := hz1 hzlt
        have before : ∀ (i' : Nat) x', i' < z → Q[i']? = some x' → ¬ (x' <+: p ∨ p <+: x') := fun i' x' hi hx' h => by
          rcases h with h | h
          · by_cases e : x' = p
            · exact hz2 i' x' hi hx' (by rw [e]; exact List.prefix_refl _)
            · obtain ⟨t, ht, he⟩ := pp i' x' hx' h e
              rcases hb with ⟨_, _, hb⟩ | ⟨_, i, rfl, _, hb⟩
              · exact hb i' x' hx' t ht he
              · exact hb i' x' (by omega) hx' t ht he
          · exact hz2 i' x' hi hx' h
        by_cases hv : 0 ≤ EN Q p
        · obtain ⟨v, hve, hvx, hvm⟩ := EN_nonneg hv
          rw [hve]
          have hzv : z ≤ v := by
            rcases Nat.lt_or_ge v z with h | h
            · exact absurd (show p <+: p from List.prefix_refl p) (hz2 v p h hvx)
            · exact h
          by_cases hvz : v = z
          · subst hvz
            rw [if_pos ⟨by omega, by omega⟩]
            exact .inr ⟨v, p, rfl, hvx, .inl (List.prefix_refl p), by simp, before⟩
          · rw [if_neg (by omega)]
            refine .inr ⟨z, x, rfl, hx, .inr hpx, ?_, before⟩
            rw [if_neg (hvm z x (by omega) hx)]
        · rw [if_neg (fun h => hv h.1)]
          refine .inr ⟨z, x, rfl, hx, .inr hpx, ?_, before⟩
          rw [if_neg (EN_neg (by omega) z x hx)]
      · have hnc : ¬ ((0 : Int) < (Q.length : Int) ∧ (z : Int) < l) := fun h => hzl2 h.2
        simp only [if_neg hnc]
        rcases hb with ⟨h1, h2, hb⟩ | ⟨h1, i, rfl, ⟨x, t, hx, ht, hxt⟩, hb⟩
        · have hzq : z = Q.length := by omega
          have hv : ¬ (0 ≤ EN Q p) := fun h => by
            obtain ⟨v, _, hvx, _⟩ := EN_nonneg h
            have := (List.getElem?_eq_some_iff.1 hvx).1
            exact hz2 v p (by omega) hvx (List.prefix_refl p)
          rw [if_neg (fun h => hv h.1)]
          refine .inl ⟨h1, fun i x hx h => ?_⟩
          have hi := (List.getElem?_eq_some_iff.1 hx).1
          rcases h with h | h
          · by_cases e : x = p
            · exact hz2 i x (by omega) hx (by rw [e]; exact List.prefix_refl _)
            · obtain ⟨t, ht, he⟩ := pp i x hx h e
              exact hb i x hx t ht he
          · exact hz2 i x (by omega) hx h
        · have hxne : x ≠ p := fun e => by
            have := congrArg List.length (e.symm.trans hxt)
            simp [List.length_take] at this
            omega
          have hxp : x <+: p := by rw [hxt]; exact List.take_prefix t p
          have hv : ¬ (0 ≤ EN Q p ∧ EN Q p ≤ (i : Int)) := fun ⟨h, hle⟩ => by
            obtain ⟨v, hve, hvx, _⟩ := EN_nonneg h
            rw [hve] at hle
            rcases Nat.lt_or_ge v z with h' | h'
            · exact hz2 v p h' hvx (List.prefix_refl p)
            · have : v = i := by omega
              subst this
              rw [hvx] at hx
              injection hx with hx
              exact hxne hx.symm
          rw [if_neg hv]
          refine .inr ⟨i, x, rfl, hx, .inl hxp, by rw [if_neg hxne, h1], fun i' x' hi hx' h => ?_⟩
          rcases h with h | h
          · by_cases e : x' = p
            · exact hz2 i' x' (by omega) hx' (by rw [e]; exact List.prefix_refl _)
            · obtain ⟨t', ht', he⟩ := pp i' x' hx' h e
              exact hb i' x' hi hx' t' ht' he
          · exact hz2 i' x' (by omega) hx' h
  | k :: r, n, l, y, hr, hn, hb => by
    have hlt : n < p.length := by
      rcases Nat.lt_or_ge n p.length with h | h
      · exact h
      · rw [List.drop_of_length_le h] at hr; cases hr
    have hk : p[n] = k := by
      rw [List.drop_eq_getElem_cons hlt] at hr
      exact (List.cons.inj hr).1
    have htk : p.take (n + 1) = p.take n ++ [k] := by rw [List.take_succ_eq_append_getElem hlt, hk]
    have hdr : p.drop (n + 1) = r := by
      rw [List.drop_eq_getElem_cons hlt] at hr
      exact (List.cons.inj hr).2
    have hb' := best_step hb
    simp only [desc]
    by_cases hs : (loc (p.take n ++ [k])).isSome = true
    · rw [if_pos hs, ← htk]
      exact desc_ok Q p loc hdom r (n + 1) _ _ hdr hlt hb'
    · rw [if_neg hs]
      simp only [meetEnd]
      rw [← htk] at hs
      have hno : ∀ x ∈ Q, ¬ p.take (n + 1) <+: x := fun x hx h => hs ((hdom _).2 (.inr ⟨x, hx, h⟩))
      have key : ∀ (i : Nat) x, Q[i]? = some x → (x <+: p ∨ p <+: x) → ∃ t, t < n + 1 ∧ x = p.take t := fun i x hx h => by
        have hmem : x ∈ Q := List.mem_of_getElem? hx
        rcases h with h | h
        · obtain ⟨t, ht, he⟩ := take_prefix_iff.1 h
          refine ⟨t, ?_, he⟩
          rcases Nat.lt_or_ge t (n + 1) with h1 | h1
          · exact h1
          · exact absurd (by rw [he]; exact List.take_prefix_take_left h1) (hno x hmem)
        · exact absurd (List.IsPrefix.trans (List.take_prefix _ _) h) (hno x hmem)
      rcases hb' with ⟨h1, h2, hb'⟩ | ⟨h1, i, hi, ⟨x, t, hx, ht, hxt⟩, hb'⟩
      · exact .inl ⟨h1, fun i x hx h => by
          obtain ⟨t, ht, he⟩ := key i x hx h
          exact hb' i x hx t ht he⟩
      · refine .inr ⟨i, x, hi, hx, .inl (by rw [hxt]; exact List.take_prefix t p), ?_, fun i' x' hi' hx' h => ?_⟩
        · have hxne : x ≠ p := fun e => by
            have := congrArg List.length (e.symm.trans hxt)
            simp [List.length_take] at this
            omega
          rw [show (if x = p then (56 : Int) else 57) = 57 from if_neg hxne]
          exact h1
        · obtain ⟨t', ht', he⟩ := key i' x' hx' h
          exact hb' i' x' hi' hx' t' ht' he
end Nm
end Go.Proofs.Ytpkeabggkeecaaa
