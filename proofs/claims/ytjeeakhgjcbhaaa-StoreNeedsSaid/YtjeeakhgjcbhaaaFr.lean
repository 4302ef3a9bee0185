/- A row of flat structs of the call's own: read, and written over field by field. -/
import Derived.Test.YtjeeakhgjcbhaaaFl
import Derived.Lib.SmallJoins
set_option linter.unusedVariables false
set_option linter.unusedSimpArgs false
namespace Go.Proofs.Ytjeeakhgjcbhaaa
open Go.RowKit Go.Proofs.YtjeeakhgjcbhaaaW.PrintWords
namespace Fl
section
variable {α : Type} {enc : α → List Value} {n : Nat} {hn : ∀ x, (enc x).length = n} {h1 : ∀ x, ∀ u ∈ enc x, u.oneCell' = true}
/-- Block g is a row of elements of type e whose first ones are xs. -/
def RowOf (enc : α → List Value) (n : Nat) (w : World) (g : Nat) (e : TypeId) (xs : List α) : Prop :=
  ∃ cur : Array Value, w.heap[g]? = some (.cells cur e (0, 0)) ∧ Reps (fun x c => c = enc x) n xs (cur.toList.take (xs.length * n)) ∧ xs.length ≤ maxLen
theorem rowOf_R {e : TypeId} {w : World} {base : Nat} {ok : Nat → Prop} {v : Value} {xs : List α} (h : (flat enc n hn h1).R e w base ok v xs) (hx : 0 < xs.length) :
    ∃ g cap, v = .slice (some ⟨g, 0, none⟩) xs.length cap ∧ xs.length ≤ cap ∧ cap ≤ maxLen ∧ base ≤ g ∧ RowOf enc n w g e xs := by
  obtain ⟨_, inner, ⟨hl, ho⟩, hr⟩ := h
  rcases ho with ⟨_, h0⟩ | ⟨g, cap, cur, rfl, hg, hh, hc, hm, hs, ht⟩
  · omega
  · exact ⟨g, cap, rfl, hc, hm, hg, cur, hh, by rw [show (flat enc n hn h1).sz = n from rfl] at ht; rw [ht]; exact hr, by omega⟩
theorem rowOf_R' {e : TypeId} {w : World} {base : Nat} {ok : Nat → Prop} {v : Value} {xs : List α} {m : Nat} (h : (flat enc n hn h1).R e w base ok v xs) (hm : xs.length = m) (hx : 0 < m) :
    ∃ g cap, v = .slice (some ⟨g, 0, none⟩) m cap ∧ m ≤ cap ∧ cap ≤ maxLen ∧ base ≤ g ∧ RowOf enc n w g e xs := by
  subst hm; exact rowOf_R h hx
theorem rowOf_lt {w : World} {g : Nat} {e : TypeId} {xs : List α} (h : RowOf enc n w g e xs) : g < w.heap.size := by
  obtain ⟨cur, hh, _⟩ := h
  exact Nat.lt_of_not_le fun hge => by rw [Array.getElem?_eq_none hge] at hh; cases hh
theorem rowOf_below {w w1 : World} {g : Nat} {e : TypeId} {xs : List α} (h : RowOf enc n w g e xs) (hb : Below w.heap.size w w1) : RowOf enc n w1 g e xs := by
  have hlt := rowOf_lt h
  obtain ⟨cur, hh, hr⟩ := h
  exact ⟨cur, (hb.block g hlt).trans hh, hr⟩
theorem rowOf_frozen {w : World} {g : Nat} {e : TypeId} {xs : List α} (h : RowOf enc n w g e xs) (i : Nat) : w.frozen? ⟨g, i, none⟩ = false := by
  obtain ⟨cur, hh, _⟩ := h
  exact Go.Joins.unfrozen_of_block hh i
theorem rowOf_cell {w : World} {g : Nat} {e : TypeId} {xs : List α} (hn : ∀ x, (enc x).length = n) (h : RowOf enc n w g e xs) (d : α) (k : Nat) (hk : k < xs.length) (j : Nat) (u : Value) (hu : (enc (xs.getD k d))[j]? = some u) : w.cell? ⟨g, k * n + j, none⟩ = some u := by
  obtain ⟨cur, hh, hr, _⟩ := h
  have hx : xs[k]? = some (xs.getD k d) := by simp [List.getD_eq_getElem?_getD, List.getElem?_eq_getElem hk]
  have h2 := hr.2 k _ hx
  simp only at h2
  rw [← h2, List.getElem?_take] at hu
  split at hu
  · rename_i hj
    rw [List.getElem?_drop, List.getElem?_take] at hu
    split at hu
    · rw [Go.Joins.cell_of_block hh, ← Array.getElem?_toList]; exact hu
    · cases hu
  · cases hu
/-- The row, read. -/
theorem rowOf_C {w : World} {g : Nat} {e : TypeId} {xs : List α} (h : RowOf enc n w g e xs) (k : Nat) (hk : k ≤ xs.length) : (flat enc n hn h1).C w (some ⟨g, 0, none⟩) k (xs.take k) := by
  refine ⟨by rw [List.length_take]; omega, by have := h; obtain ⟨_, _, _, hm⟩ := this; exact Nat.le_trans hk hm, fun _ => ⟨_, rfl, fun j p hj => ⟨enc p, hn p, rfl, fun i u hu => ?_⟩⟩⟩
  have hj1 : j < (xs.take k).length := (List.getElem?_eq_some_iff.1 hj).1
  have hj2 : j < xs.length := by rw [List.length_take] at hj1; omega
  have hjk : j < k := by rw [List.length_take] at hj1; omega
  rw [List.getElem?_take_of_lt hjk] at hj
  rw [Go.WideShapes.add_plain, Nat.zero_add]
  refine rowOf_cell hn h p j hj2 i u ?_
  rw [List.getD_eq_getElem?_getD, hj]
  exact hu
/-- One field of element k is written. -/
theorem rowOf_set {w : World} {g : Nat} {e : TypeId} {xs : List α} (hn : ∀ x, (enc x).length = n) (h : RowOf enc n w g e xs) (d x' : α) (k : Nat) (hk : k < xs.length) (j : Nat) (hj : j < n) (u : Value) (hx : enc x' = (enc (xs.getD k d)).set j u) :
    RowOf enc n (w.setCell ⟨g, k * n + j, none⟩ u) g e (xs.set k x') := by
  obtain ⟨cur, hh, hr, hm⟩ := h
  have hl := hr.1
  rw [List.length_take] at hl
  have hfit : k * n + n ≤ xs.length * n := by rw [← Nat.succ_mul]; exact Nat.mul_le_mul_right _ hk
  refine ⟨_, Go.Joins.block_setCell hh _, ?_, by rw [List.length_set]; exact hm⟩
  have hxk : xs[k]? = some (xs.getD k d) := by simp [List.getD_eq_getElem?_getD, List.getElem?_eq_getElem hk]
  rw [List.length_set, Array.toList_setIfInBounds]
  refine ⟨by rw [List.length_set, List.length_take, List.length_set]; exact hl, fun m p hp => ?_⟩
  have hml : m < xs.length := by have := (List.getElem?_eq_some_iff.1 hp).1; rwa [List.length_set] at this
  have hmf : m * n + n ≤ xs.length * n := by rw [← Nat.succ_mul]; exact Nat.mul_le_mul_right _ hml
  show (((cur.toList.set (k * n + j) u).take (xs.length * n)).drop (m * n)).take n = enc p
  by_cases hmk : m = k
  · subst hmk
    rw [List.getElem?_set_self hml] at hp
    obtain rfl := Option.some.inj hp
    rw [hx]
    have h2 := hr.2 m _ hxk
    simp only at h2
    rw [← h2]
    apply List.ext_getElem?
    intro q
    simp only [List.getElem?_take, List.getElem?_drop, List.getElem?_set, List.length_take, List.length_drop]
    by_cases hq : q < n
    · by_cases hqj : j = q
      · subst hqj
        have a1 : m * n + j < cur.toList.length := by omega
        simp [hq, a1, show m * n + j < xs.length * n by omega]
        have a2 : m * n + j < cur.size := by simpa using a1
        have hl2 : min (xs.length * n) cur.size = xs.length * n := by simpa using hl
        rw [if_pos a2, if_pos (by omega)]
      · simp [hq, hqj, show m * n + q < xs.length * n by omega]
    · simp [hq, show ¬ j = q by omega]
  · rw [List.getElem?_set_ne (Ne.symm hmk)] at hp
    have h2 := hr.2 m p hp
    simp only at h2
    rw [← h2]
    apply List.ext_getElem?
    intro q
    simp only [List.getElem?_take, List.getElem?_drop, List.getElem?_set]
    by_cases hq : q < n
    · have hne : ¬ k * n + j = m * n + q := by
        intro he
        rcases Nat.lt_or_gt_of_ne hmk with hlt | hgt
        · have : m * n + n ≤ k * n := by rw [← Nat.succ_mul]; exact Nat.mul_le_mul_right _ hlt
          omega
        · have : k * n + n ≤ m * n := by rw [← Nat.succ_mul]; exact Nat.mul_le_mul_right _ hgt
          omega
      rw [if_neg hne]
    · simp [hq]
end
end Fl
end Go.Proofs.Ytjeeakhgjcbhaaa
