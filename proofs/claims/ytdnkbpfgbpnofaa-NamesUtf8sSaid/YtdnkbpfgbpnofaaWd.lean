/- Small words that the walks of this seat share: results, bytes of a string, strings read out of a row, what a world keeps. No conditions. -/
import Derived.Test.YtdnkbpfgbpnofaaProg
import Derived.Test.YtdnkbpfgbpnofaaWWords
import Derived.WalkKit
import Derived.WalkSpells
import Derived.WalkSmall
import Derived.Lib.Hide
import Derived.Deep.LoopGhost
import Derived.BigQuiet
import Derived.Deep.QuietTactic
set_option linter.unusedVariables false
set_option linter.unusedSimpArgs false
namespace Go.Proofs.Ytdnkbpfgbpnofaa
open Go.RowKit Go.Proofs.YtdnkbpfgbpnofaaW.PrintWords
namespace Wd
theorem ret_i {k : IntKind} {a b : Int} (h : a = b) : Ending.returned (.int k a) = .returned (.int k b) := by rw [h]
theorem ret_b {a b : Bool} (h : a = b) : Ending.returned (.bool a) = .returned (.bool b) := by rw [h]
theorem bool_ext {a b : Bool} (h : a = true ↔ b = true) : a = b := by cases a <;> cases b <;> simp_all
/-- Byte i of a text; 0 beyond its end. -/
def byt (s : ByteArray) (i : Nat) : Int := if h : i < s.size then ((s[i]'h).toNat : Int) else 0
theorem byt_eq (s : ByteArray) (i : Nat) (h : i < s.size) : ((s[i]'h).toNat : Int) = byt s i := by simp [byt, h]
theorem byt_lo (s : ByteArray) (i : Nat) : 0 ≤ byt s i := by unfold byt; split <;> omega
theorem byt_hi (s : ByteArray) (i : Nat) : byt s i ≤ 255 := by
  unfold byt; split
  · rename_i h; have := (s[i]'h).toNat_lt; omega
  · omega
/-- String i of a row that is read. -/
theorem at_str {w : World} {A : Option Addr} {n : Nat} {xs : List ByteArray} (h : Kd.string.C w A n xs) (i : Nat) (hi : i < n) : ∃ ad, A = some ad ∧ w.cell? (ad.add i) = some (.string (xs.getD i ByteArray.empty)) := by
  obtain ⟨ad, e, hc⟩ := Kd.at_string h i (by omega) (by omega)
  exact ⟨ad, e, by simpa [rdOf] using hc⟩
theorem cell_keep {B : Nat} {w W : World} (h : Below B w W) {a : Addr} {u : Value} (hc : w.cell? a = some u) (hb : a.block < B) : W.cell? a = some u := (h.cell hb).trans hc
theorem cell_stay {w W : World} (h : Below w.heap.size w W) {a : Addr} {u : Value} (hc : w.cell? a = some u) : W.cell? a = some u := (h.cell (World.block_lt_of_cell? w _ hc)).trans hc
theorem getD_drop {α : Type} (xs : List α) (k : Nat) (d : α) (h : k < xs.length) : xs.drop k = xs.getD k d :: xs.drop (k + 1) := by
  rw [List.drop_eq_getElem_cons h, List.getD_eq_getElem?_getD, List.getElem?_eq_getElem h]; rfl
theorem getD_take {α : Type} (xs : List α) (k : Nat) (d : α) (h : k < xs.length) : xs.take (k + 1) = xs.take k ++ [xs.getD k d] := by
  rw [List.take_succ_eq_append_getElem h, List.getD_eq_getElem?_getD, List.getElem?_eq_getElem h]; rfl
theorem bel_iter {w w0 : World} (h : Below w.heap.size w w0) (s : ByteArray) (p : Nat) : Below w.heap.size w (w0.iter s p) := below_alloc h _
end Wd
end Go.Proofs.Ytdnkbpfgbpnofaa
