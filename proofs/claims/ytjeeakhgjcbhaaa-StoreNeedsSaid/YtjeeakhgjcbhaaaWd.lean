/- Small words that the walks of this seat share: results, bytes of a string, strings read out of a row, what a world keeps. No conditions. -/
import Derived.Test.YtjeeakhgjcbhaaaProg
import Derived.Test.YtjeeakhgjcbhaaaWWords
import Derived.WalkKit
import Derived.WalkSpells
import Derived.WalkSmall
import Derived.Lib.Hide
import Derived.Deep.LoopGhost
import Derived.BigQuiet
import Derived.Deep.QuietTactic
set_option linter.unusedVariables false
set_option linter.unusedSimpArgs false
namespace Go.Proofs.Ytjeeakhgjcbhaaa
open Go.RowKit Go.Proofs.YtjeeakhgjcbhaaaW.PrintWords
namespace Wd
theorem ret_i {k : IntKind} {a b : Int} (h : a = b) : Ending.returned (.int k a) = .returned (.int k b) := by rw [h]
theorem ret_b {a b : Bool} (h : a = b) : Ending.returned (.bool a) = .returned (.bool b) := by rw [h]
theorem bool_ext {a b : Bool} (h : a = true ↔ b = true) : a = b := by cases a <;> cases b <;> simp_all
/-- Byte i of a text; 0 beyond its end. -/
def byt (s : ByteArray) (i : Nat) : Int := if h : i < s.size then ((s[i]'h).toNat : Int) else 0
theorem byt_eq (s : ByteArray) (i : Nat) (h : i < s.size) : ((s[i]'h).toNat : Int) = byt s i := by simp [byt, h]
theorem byt_lo (s : ByteArray) (i : Nat) : 0 ≤ byt s i := by unfold byt; split <;> omega
theorem byt_hi (s : ByteArray) (i : Nat) : byt s i ≤ 255 := by
  unfold byt; split
  · rename_i h; have := (s[i]'h).toNat_lt; omega
  · omega
/-- Element i of a list (a word that the walk's simp leaves alone). -/
def nth {α : Type} (d : α) (xs : List α) (k : Nat) : α := xs.getD k d
/-- String i of a list. -/
def sx (xs : List ByteArray) (k : Nat) : ByteArray := xs.getD k ByteArray.empty
/-- String i of a row that is read. -/
theorem at_str {w : World} {A : Option Addr} {n : Nat} {xs : List ByteArray} (h : Kd.string.C w A n xs) (i : Nat) (hi : i < n) : ∃ ad, A = some ad ∧ w.cell? (ad.add i) = some (.string (sx xs i)) := by
  obtain ⟨ad, e, hc⟩ := Kd.at_string h i (by omega) (by omega)
  exact ⟨ad, e, by simpa [rdOf, sx] using hc⟩
theorem cell_keep {B : Nat} {w W : World} (h : Below B w W) {a : Addr} {u : Value} (hc : w.cell? a = some u) (hb : a.block < B) : W.cell? a = some u := (h.cell hb).trans hc
theorem cell_stay {w W : World} (h : Below w.heap.size w W) {a : Addr} {u : Value} (hc : w.cell? a = some u) : W.cell? a = some u := (h.cell (World.block_lt_of_cell? w _ hc)).trans hc
theorem getD_drop {α : Type} (xs : List α) (k : Nat) (d : α) (h : k < xs.length) : xs.drop k = xs.getD k d :: xs.drop (k + 1) := by
  rw [List.drop_eq_getElem_cons h, List.getD_eq_getElem?_getD, List.getElem?_eq_getElem h]; rfl
theorem getD_take {α : Type} (xs : List α) (k : Nat) (d : α) (h : k < xs.length) : xs.take (k + 1) = xs.take k ++ [xs.getD k d] := by
  rw [List.take_succ_eq_append_getElem h, List.getD_eq_getElem?_getD, List.getElem?_eq_getElem h]; rfl
theorem sx_drop (xs : List ByteArray) (k : Nat) (h : k < xs.length) : xs.drop k = sx xs k :: xs.drop (k + 1) := getD_drop xs k _ h
theorem sx_take (xs : List ByteArray) (k : Nat) (h : k < xs.length) : xs.take (k + 1) = xs.take k ++ [sx xs k] := getD_take xs k _ h
theorem nth_drop {α : Type} (d : α) (xs : List α) (k : Nat) (h : k < xs.length) : xs.drop k = nth d xs k :: xs.drop (k + 1) := getD_drop xs k _ h
theorem nth_take {α : Type} (d : α) (xs : List α) (k : Nat) (h : k < xs.length) : xs.take (k + 1) = xs.take k ++ [nth d xs k] := getD_take xs k _ h
theorem nth_mem {α : Type} (d : α) (xs : List α) (k : Nat) (h : k < xs.length) : nth d xs k ∈ xs := by
  unfold nth; rw [List.getD_eq_getElem?_getD, List.getElem?_eq_getElem h]; exact List.getElem_mem h
theorem sx_mem (xs : List ByteArray) (k : Nat) (h : k < xs.length) : sx xs k ∈ xs := nth_mem ByteArray.empty xs k h
/-- Two lengths, seen as unlike or as like, in all the spellings of a walk. -/
theorem len_eq {n m : Nat} (h : n = m) : ((n : Int) == (m : Int)) = true ∧ ((n : Int) != (m : Int)) = false ∧ (n == m) = true ∧ (n != m) = false := by subst h; simp
theorem len_ne {n m : Nat} (h : n ≠ m) : ((n : Int) == (m : Int)) = false ∧ ((n : Int) != (m : Int)) = true ∧ (n == m) = false ∧ (n != m) = true := by
  refine ⟨?_, ?_, ?_, ?_⟩ <;> simp <;> omega
theorem bel_iter {w w0 : World} (h : Below w.heap.size w w0) (s : ByteArray) (p : Nat) : Below w.heap.size w (w0.iter s p) := below_alloc h _
end Wd
end Go.Proofs.Ytjeeakhgjcbhaaa
