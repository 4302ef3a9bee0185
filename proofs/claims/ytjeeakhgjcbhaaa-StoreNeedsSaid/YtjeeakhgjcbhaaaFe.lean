/- Comparing whole structs and arrays of numbers: '==' answers whether they are the same. -/
import Derived.Test.YtjeeakhgjcbhaaaFl
import Derived.DeepKeys
set_option linter.unusedVariables false
set_option linter.unusedSimpArgs false
namespace Go.Proofs.Ytjeeakhgjcbhaaa
open Go.RowKit Go.Proofs.YtjeeakhgjcbhaaaW.PrintWords
namespace Fl
theorem mapM_some {α β : Type} {f : α → Option β} {g : α → β} : ∀ {l : List α}, (∀ x ∈ l, f x = some (g x)) → l.mapM f = some (l.map g)
  | [], _ => rfl
  | a :: l, h => by
    rw [List.mapM_cons, h a (List.mem_cons_self ..), mapM_some fun x hx => h x (List.mem_cons_of_mem _ hx)]
    rfl
theorem singles {α β : Type} (g : α → β) : ∀ l : List α, (l.map fun x => [g x]).flatten = l.map g
  | [] => rfl
  | a :: l => by simp [singles g l]
/-- An array of numbers. -/
theorem lits_arr {P : Program} {d : Nat} {t e : TypeId} {n : Nat} {k : IntKind} (hu : P.underlying t = some (.array n e)) (he : P.underlying e = some (.int k)) (hce : P.cellsOf e = 1) (hct : P.cellsOf t = n) {zs : List Int} (hl : zs.length = n) (hw : ∀ z ∈ zs, (Lit.int k z).wf = true) :
    P.keyLits (d + 2) t (zs.map (Value.int k)) = some (zs.map (Lit.int k)) := by
  have hm : (List.range n).mapM (fun i => P.keyLits (d + 1) e (((zs.map (Value.int k)).drop (i * P.cellsOf e)).take (P.cellsOf e))) = some ((List.range n).map fun i => [Lit.int k (zs.getD i 0)]) := by
    refine mapM_some fun i hi => ?_
    have hi' : i < zs.length := by rw [hl]; exact List.mem_range.1 hi
    rw [hce, Nat.mul_one, ← List.map_drop, List.drop_eq_getElem_cons hi', List.map_cons, List.take_succ_cons, List.take_zero]
    unfold Program.keyLits
    rw [he]
    simp only
    rw [if_pos ⟨by simp, hw _ (List.getElem_mem hi')⟩]
    simp [List.getD_eq_getElem?_getD, List.getElem?_eq_getElem hi']
  unfold Program.keyLits
  rw [hu]
  simp only
  rw [if_pos (by rw [List.length_map, hl, hct]), hm]
  simp only [Option.map_some, Option.some.injEq]
  rw [singles]
  apply List.ext_getElem
  · simp [hl]
  · intro i h1 h2
    have hi' : i < zs.length := by simpa using h2
    simp [List.getD_eq_getElem?_getD, List.getElem?_eq_getElem hi']
/-- The same struct twice. -/
theorem eql_same {P : Program} {D m : Nat} {t : TypeId} (hk : P.keyTypeAt m t = true) (hm : m ≤ 10000) {x : Value} {ls : List Lit} (hf : x.formed P t = true) (h : P.keyLits D t x.cells.toList = some ls) (w : World) :
    (Op.equalIn 10000 t x x).run P w = .ok true w := by
  obtain ⟨r, hr, hiff⟩ := run_equalIn_deep (P := P) (10000 - m) m t hk w D D x x ls ls hf hf h h
  rw [show 10000 - m + m = 10000 by omega] at hr
  rw [hr, hiff.2 rfl]
/-- Two structs. -/
theorem eql_lits {P : Program} {D m : Nat} {t : TypeId} (hk : P.keyTypeAt m t = true) (hm : m ≤ 10000) {x y : Value} {ls ks : List Lit} (hf : x.formed P t = true) (hg : y.formed P t = true) (h : P.keyLits D t x.cells.toList = some ls) (h' : P.keyLits D t y.cells.toList = some ks) {b : Bool} (hb : b = true ↔ ls = ks) (w : World) :
    (Op.equalIn 10000 t x y).run P w = .ok b w := by
  obtain ⟨r, hr, hiff⟩ := run_equalIn_deep (P := P) (10000 - m) m t hk w D D x y ls ks hf hg h h'
  rw [show 10000 - m + m = 10000 by omega] at hr
  rw [hr]
  congr 1
  rw [Bool.eq_iff_iff]
  exact hiff.trans hb.symm
end Fl
end Go.Proofs.Ytjeeakhgjcbhaaa
