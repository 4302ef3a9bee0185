/- Kinds of flat structs (numbers and bools alone, arrays of them too), and the loads and stores of whole structs. -/
import Derived.Test.YtjeeakhgjcbhaaaWd
import Derived.Test.YtjeeakhgjcbhaaaWArr
import Derived.Deep.MidRow
import Derived.Laws.Tables
import Derived.Deep.Slices
import Derived.Great.BuildSlice
import Derived.Laws.StructEq
set_option linter.unusedVariables false
set_option linter.unusedSimpArgs false
namespace Go.Proofs.Ytjeeakhgjcbhaaa
open Go.RowKit Go.Proofs.YtjeeakhgjcbhaaaW.PrintWords
namespace Fl
/-- A struct of numbers and bools: its cells are told by enc. -/
def flat {α : Type} (enc : α → List Value) (n : Nat) (hn : ∀ x, (enc x).length = n) (h1 : ∀ x, ∀ u ∈ enc x, u.oneCell' = true) : Kd α where
  sz := n
  E := []
  K := fun _ x cs => cs = enc x
  M := fun _ _ _ x cs => cs = enc x
  K_len := fun h => by rw [h]; exact hn _
  K_one := fun h u hu => by rw [h] at hu; exact h1 _ u hu
  K_below := fun _ h => h
  K_of_M := fun h => h
  M_mono := fun _ h => h
  M_bound := fun h => h
  M_move := fun _ h => h
  M_lower := fun _ h => h
section
variable {α : Type} {enc : α → List Value} {n : Nat} {hn : ∀ x, (enc x).length = n} {h1 : ∀ x, ∀ u ∈ enc x, u.oneCell' = true}
/-- Struct k of a row that is read. -/
theorem at_flat {w : World} {A : Option Addr} {m : Nat} {xs : List α} (d : α) (h : (flat enc n hn h1).C w A m xs) (k : Nat) (hk : k < m) :
    ∃ ad, A = some ad ∧ ∀ j u, (enc (xs.getD k d))[j]? = some u → w.cell? (ad.add (k * n + j)) = some u := by
  obtain ⟨ad, c, e, _, hK, hc⟩ := Kd.C_get h d (k : Int) (by omega) (by omega)
  obtain rfl : c = enc (xs.getD k d) := hK
  exact ⟨ad, e, fun j u hj => hc j u hj⟩
end
/-- A field's cell, as a walk spells its address. -/
theorem fcell {w : World} {ad : Addr} {i : Nat} (j : Nat) (hj : j ≠ 0) {u : Value} (h : w.cell? (ad.add (i + j)) = some u) : w.cell? ⟨(ad.add i).block, (ad.add i).off + j, none⟩ = some u := by
  rw [← Go.Deep.add_add] at h
  unfold Addr.add at h ⊢
  rw [if_neg hj] at h
  exact h
/-- A whole struct that lies in memory is loaded. -/
theorem run_load {P : Program} {w : World} {ad : Addr} {ty : TypeId} {cs : List Value} {d : TypeDesc} (hc : ∀ j v, cs[j]? = some v → w.cell? (ad.add j) = some v)
    (hu : P.underlying ty = some d) (hd : d.isRow = true) (hi : (P.info? ty).map (·.size) = some cs.length) : (Instr.loadAt ty (.pointer (some ad))).run P w = .ok (.agg cs.toArray) w := by
  have hl : (loadCells ad cs.length).run P w = .ok cs.toArray w := run_loadCells_list (P := P) w ad cs hc
  cases hq : P.info? ty with
  | none => simp [hq] at hi
  | some i =>
    have hs : i.size = cs.length := by simpa [hq] using hi
    have hagg : (isAgg ty).run P w = .ok true w := by
      unfold isAgg
      rw [Sem.run_bind, run_underlying hu w]
      cases d <;> simp_all
    simp only [Instr.loadAt, Instr.sureAddr, Sem.run_bind, Sem.run_pure, Result.andThen_ok]
    simp [loadVar, Sem.run_bind, hagg, sizeOf, typeInfo, hq, hs, hl]
theorem wpList_load {P : Program} {ops : Array Oper} {rest : List Oper} {op : Oper} {a : Act} {w : World} {Q : Exit → Act → World → Prop} (hgd : op.guard = none) (ty : TypeId) (x : Operand) (ho : op.op = .load ty x)
    (ad : Addr) (hx : a.eval x = .pointer (some ad)) (cs : List Value) (d : TypeDesc) (hc : ∀ j v, cs[j]? = some v → w.cell? (ad.add j) = some v)
    (hu : P.underlying ty = some d) (hd : d.isRow = true) (hi : (P.info? ty).map (·.size) = some cs.length)
    (h : wpList P ops Q rest (a.put op.dst (.agg cs.toArray)) w) : wpList P ops Q (op :: rest) a w :=
  wpList_plain hgd fun _ hK => by
    unfold Oper.wp execOp
    simp only [ho, hx, Sem.run_bind, run_load hc hu hd hi, Sem.run_pure, Result.andThen_ok]
    exact hK _ _ h
/-- In a quiet region: a whole struct is loaded. -/
theorem quiet_load {P : Program} {C : World → Prop} {o : Oper} {a : Act} {K : Act → Prop} (ty : TypeId) (x : Operand) (ho : o.op = .load ty x) (ad : Addr) (hx : a.eval x = .pointer (some ad)) (cs : Array Value)
    (hl : ∀ w, C w → (Instr.loadAt ty (.pointer (some ad))).run P w = .ok (.agg cs) w) (h : K (a.put o.dst (.agg cs))) : o.quiet P a C K :=
  ⟨_, fun w hw => by unfold Oper.quietAt execOp; simp only [ho, hx, Sem.run_bind, hl w hw, Sem.run_pure, Result.andThen_ok]; exact ⟨rfl, rfl⟩, h⟩
/-- In a quiet region: two whole structs are compared. -/
theorem quiet_eql {P : Program} {C : World → Prop} {o : Oper} {a : Act} {K : Act → Prop} (ty r : TypeId) (x y : Operand) (ho : o.op = .binOp .eql ty x y r) (xs ys : Array Value) (hx : a.eval x = .agg xs) (hy : a.eval y = .agg ys) (hm : P.eqGuardType P.depth ty = false) (b : Bool)
    (hl : ∀ w, (Op.equalIn 10000 ty (.agg xs) (.agg ys)).run P w = .ok b w) (h : K (a.put o.dst (.bool b))) : o.quiet P a C K :=
  ⟨_, fun w hw => by
    have h1 := run_eqGuard_agg (P := P) w .eql ty x y xs ys hm
    have h2 := run_eql_struct (P := P) w ty xs ys
    rw [hl w] at h2
    unfold Oper.quietAt execOp
    simp only [ho, hx, hy, Sem.run_bind, h1, h2, Sem.run_pure, Result.andThen_ok]
    exact ⟨rfl, rfl⟩, h⟩
theorem setRow_fresh (w : World) (t : TypeId) (old cs : Array Value) : (w.alloc (.cells old t)).setRow w.heap.size cs = w.alloc (.cells cs t) := by
  have hh : ((w.alloc (.cells old t)).setRow w.heap.size cs).heap = (w.alloc (.cells cs t)).heap := by
    apply Array.ext_getElem?
    intro k
    by_cases hk : k = w.heap.size
    · subst hk
      rw [setRow_heap _ _ old cs t (0, 0) (heap_alloc_new w _)]
      exact (heap_alloc_new w _).symm
    · rw [setRow_other _ _ _ _ hk]
      show (w.heap.push _)[k]? = (w.heap.push _)[k]?
      rw [Array.getElem?_push, Array.getElem?_push, if_neg hk, if_neg hk]
  unfold World.setRow World.alloc at *
  simp only at *
  rw [hh]
/-- A whole struct is stored into the block that was just made for it. -/
theorem wpList_store_fresh {P : Program} {ops : Array Oper} {rest : List Oper} {o : Oper} {a : Act} {w : World} {Q : Exit → Act → World → Prop} (hgd : o.guard = none) (ty : TypeId) (x y : Operand) (ho : o.op = .store ty x y)
    (t : TypeId) (old : Array Value) (cells : Array Value) (hx : a.eval x = .pointer (some ⟨w.heap.size, 0, none⟩)) (hy : a.eval y = .agg cells) (hi : (P.info? ty).map (·.size) = some cells.size)
    (hold : old.size = cells.size) (h1 : cells.all (·.oneCell') = true)
    (h : wpList P ops Q rest (a.put o.dst undef) (w.alloc (.cells cells t))) : wpList P ops Q (o :: rest) a (w.alloc (.cells old t)) :=
  wpList_store_row hgd ty x y ho w.heap.size cells hx hy t old (heap_alloc_new w _) hi hold h1 (by rw [setRow_fresh]; exact h)
/-- A whole struct is loaded out of the block that was just made for it. -/
theorem wpList_load_fresh {P : Program} {ops : Array Oper} {rest : List Oper} {o : Oper} {a : Act} {w : World} {Q : Exit → Act → World → Prop} (hgd : o.guard = none) (ty : TypeId) (x : Operand) (ho : o.op = .load ty x)
    (t : TypeId) (cells : Array Value) (hx : a.eval x = .pointer (some ⟨w.heap.size, 0, none⟩)) (d : TypeDesc) (hu : P.underlying ty = some d) (hd : d.isRow = true) (hi : (P.info? ty).map (·.size) = some cells.size)
    (h : wpList P ops Q rest (a.put o.dst (.agg cells)) (w.alloc (.cells cells t))) : wpList P ops Q (o :: rest) a (w.alloc (.cells cells t)) :=
  wpList_load_row hgd ty x ho w.heap.size hx t cells (0, 0) d (heap_alloc_new w _) hu (by cases d <;> first | rfl | cases hd) hi h
/-- A struct literal: its cells said by the caller. -/
theorem wpList_build_to {P : Program} {ops : Array Oper} {rest : List Oper} {o : Oper} {a : Act} {w : World} {Q : Exit → Act → World → Prop} (hg : o.guard = none) (t : TypeId) (parts : Array (Nat × Operand)) (ho : o.op = .build t parts)
    (cells : Array Value) (hf : P.built t (parts.map fun (i, x) => (i, a.eval x)).toList = some cells)
    (h : wpList P ops Q rest (a.put o.dst (.agg cells)) w) : wpList P ops Q (o :: rest) a w :=
  wpList_build hg t parts ho (by rw [hf]; rfl) (by rw [hf]; exact h)
/-- A slice literal of one struct. -/
theorem wpList_lit_one {P : Program} {ops : Array Oper} {rest : List Oper} {o : Oper} {a : Act} {w : World} {Q : Exit → Act → World → Prop} (hg : o.guard = none) (t e : TypeId) (x : Operand) (ho : o.op = .buildSlice t 1 #[(0, x)])
    (cs : Array Value) (hx : a.eval x = .agg cs) (hu : P.underlying t = some (.slice e)) (z : Value) (hi : (P.info? e).map (fun i => (i.zero, i.size)) = some (some z, cs.size)) (hpos : 0 < cs.size) (hsmall : cs.size ≤ 2 ^ 24)
    (h : wpList P ops Q rest (a.put o.dst (.slice (some ⟨w.heap.size, 0, none⟩) 1 1)) (w.alloc (.cells cs e))) : wpList P ops Q (o :: rest) a w := by
  obtain ⟨ie, hie, hzz⟩ := Option.map_eq_some_iff.1 hi
  simp only [Prod.mk.injEq] at hzz
  obtain ⟨hz0, hz1⟩ := hzz
  refine wpList_buildSlice hg t e 1 #[(0, x)] ho cs ie z hu hie hz0 (by omega) (by omega) ?_ h
  have hf := Great.fill_whole (s := ie.size) (by omega) [Value.agg cs] ((Array.range (1 * ie.size)).map (z.cells[· % z.cells.size]!)) (by intro v hv; rw [List.mem_singleton.1 hv]; exact hz1.symm) (by simp)
  simpa [hx, Value.cells] using hf
theorem all_one {cs : List Value} (h : ∀ u ∈ cs, u.oneCell' = true) : cs.toArray.all (·.oneCell') = true := all_oneCell_toArray h
end Fl
end Go.Proofs.Ytjeeakhgjcbhaaa
