/- Layer 5, plain: the place of a path is how many come ahead of it. No walk. -/
import Derived.Test.YtpkeabggkeecaaaOw
set_option linter.unusedVariables false
set_option linter.unusedSimpArgs false
namespace Go.Proofs.Ytpkeabggkeecaaa
open Go.RowKit Go.Proofs.YtpkeabggkeecaaaW.PrintWords
namespace Nm
open Wd
theorem count_before {α : Type} (R : α → α → Bool) (irr : ∀ x, R x x = false) (asym : ∀ x y, R x y = true → R y x = false) : ∀ (l : List α) (n : Nat) (h : n < l.length), l.Pairwise (fun x y => R x y = true) → l.countP (fun y => R y l[n]) = n
  | a :: t, 0, _, hp => by
    rw [List.pairwise_cons] at hp
    rw [List.countP_eq_zero]
    intro y hy
    rcases List.mem_cons.1 hy with rfl | hy
    · simp [irr]
    · simp [asym _ _ (hp.1 y hy)]
  | a :: t, n + 1, h, hp => by
    rw [List.pairwise_cons] at hp
    have ht : n < t.length := by simpa using h
    have := count_before R irr asym t n ht hp.2
    rw [List.countP_cons]
    simp only [List.getElem_cons_succ]
    rw [this, if_pos (hp.1 _ (List.getElem_mem ht))]
/-- How many of the first q paths come ahead of path i. -/
def cnt (P : List (List ByteArray)) (i q : Nat) : Nat := (List.range q).countP fun j => lessL (lx P j) (lx P i)
def rk (P : List (List ByteArray)) (i : Nat) : Nat := cnt P i P.length
theorem cnt_succ (P : List (List ByteArray)) (i q : Nat) : cnt P i (q + 1) = cnt P i q + if lessL (lx P q) (lx P i) = true then 1 else 0 := by
  unfold cnt
  rw [List.range_succ, List.countP_append, List.countP_singleton]
theorem cnt_le (P : List (List ByteArray)) (i q : Nat) : cnt P i q ≤ q := by
  unfold cnt
  have := List.countP_le_length (p := fun j => lessL (lx P j) (lx P i)) (l := List.range q)
  simpa using this
/-- Place k of the sorted places. -/
def pl (P : List (List ByteArray)) (k : Nat) : Nat := (((sortF P)[k]?).map Fin.val).getD 0
theorem pl_at {P : List (List ByteArray)} {k : Nat} (h : k < (sortF P).length) : pl P k = ((sortF P)[k]).val := by
  unfold pl; rw [List.getElem?_eq_getElem h]; rfl
theorem rk_pl {P : List (List ByteArray)} (ha : Apart P) {k : Nat} (hk : k < P.length) : rk P (pl P k) = k := by
  have h : k < (sortF P).length := by rw [sortF_length]; exact hk
  rw [pl_at h]
  have h1 := count_before (before P) (swo_before P).irrefl (fun x y hxy => lessL_asymm _ _ hxy) (sortF P) k h (sortF_rises ha)
  rw [(sortF_perm P).countP_eq] at h1
  unfold rk cnt
  rw [show List.range P.length = (List.finRange P.length).map Fin.val from List.ext_getElem (by simp) (by simp), List.countP_map]
  exact h1
theorem pl_all {P : List (List ByteArray)} {i : Nat} (hi : i < P.length) : ∃ m, m < P.length ∧ pl P m = i := by
  have : (⟨i, hi⟩ : Fin P.length) ∈ sortF P := (sortF_perm P).mem_iff.2 (List.mem_finRange _)
  obtain ⟨m, hm, he⟩ := List.getElem_of_mem this
  exact ⟨m, by rw [← sortF_length P]; exact hm, by rw [pl_at hm, he]⟩
theorem rk_lt {P : List (List ByteArray)} (ha : Apart P) {i : Nat} (hi : i < P.length) : rk P i < P.length := by
  obtain ⟨m, hm, rfl⟩ := pl_all hi
  rw [rk_pl ha hm]; exact hm
theorem pl_eq {P : List (List ByteArray)} (ha : Apart P) {i j : Nat} (hi : i < P.length) (hj : j < P.length) : pl P j = i ↔ j = rk P i := by
  constructor
  · rintro rfl; exact (rk_pl ha hj).symm
  · rintro rfl
    obtain ⟨m, hm, rfl⟩ := pl_all hi
    rw [rk_pl ha hm]
/-- The row while it is filled: the places of the first k paths. -/
def fillP (P : List (List ByteArray)) (k : Nat) : List Value := (List.range P.length).map fun j => if pl P j < k then Value.int .i64 ((pl P j : Nat) : Int) else Value.int .i64 0
theorem fillP_zero (P : List (List ByteArray)) : (madeCells #[Value.int .i64 0] P.length).toList = fillP P 0 := by
  apply List.ext_getElem
  · simp [fillP, madeCells]
  · intro i h1 h2
    simp [fillP, madeCells, Nat.mod_one]
theorem fillP_step {P : List (List ByteArray)} (ha : Apart P) (k : Nat) (cs : Array Value) (h : cs.toList = fillP P k) (hk : k < P.length) : (cs.setIfInBounds (rk P k) (.int .i64 ((k : Nat) : Int))).toList = fillP P (k + 1) := by
  rw [Array.toList_setIfInBounds, h]
  apply List.ext_getElem
  · simp [fillP]
  · intro i h1 h2
    have hi : i < P.length := by simpa [fillP] using h2
    simp only [List.getElem_set, fillP, List.getElem_map, List.getElem_range]
    have hq := pl_eq ha hk hi
    by_cases e : rk P k = i
    · have e2 : pl P i = k := hq.2 e.symm
      rw [if_pos e, e2, if_pos (by omega)]
    · have e2 : ¬ pl P i = k := fun g => e (hq.1 g).symm
      rw [if_neg e]
      by_cases g : pl P i < k
      · rw [if_pos g, if_pos (by omega)]
      · rw [if_neg g, if_neg (by omega)]
theorem fillP_end (P : List (List ByteArray)) : fillP P P.length = (sortI P).map fun z => Value.int .i64 z := by
  apply List.ext_getElem
  · simp [fillP, sortI_length]
  · intro i h1 h2
    have hi : i < (sortF P).length := by simpa [sortI] using h2
    simp only [fillP, List.getElem_map, List.getElem_range, sortI]
    rw [pl_at hi, if_pos (Fin.isLt _)]
/-- The filled row reads as the sorted places. -/
theorem filled_reads {P : List (List ByteArray)} {w : World} {blk : Nat} {cs : Array Value} (h : w.heap[blk]? = some (.cells cs 3 (0, 0))) (hf : cs.toList = fillP P P.length) (hn : P.length ≤ 4096) :
    (Kd.int .i64).C w (some ⟨blk, 0, none⟩) (sortI P).length (sortI P) := by
  refine ⟨rfl, by rw [sortI_length]; omega, fun _ => ⟨_, rfl, fun j p hj => ⟨[.int .i64 p], rfl, rfl, fun i u hu => ?_⟩⟩⟩
  cases i with
  | succ i => simp at hu
  | zero =>
    obtain rfl : Value.int .i64 p = u := by simpa using hu
    rw [Go.WideShapes.add_plain]
    have e : (0 : Nat) + (j * (Kd.int .i64).sz + 0) = j := by show 0 + (j * 1 + 0) = j; omega
    rw [e, Go.Joins.cell_of_block h, ← Array.getElem?_toList, hf, fillP_end, List.getElem?_map, hj]
    rfl
end Nm
end Go.Proofs.Ytpkeabggkeecaaa
