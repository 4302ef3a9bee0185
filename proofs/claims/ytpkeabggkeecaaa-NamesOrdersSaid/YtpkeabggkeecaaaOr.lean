/- Layer 5, walks: Order's closure, and the memory of a sort. -/
import Derived.Test.YtpkeabggkeecaaaPo
import Derived.Test.YtpkeabggkeecaaaNk
import Derived.Shelf.SlSortCmp.NoneTotal
set_option linter.unusedVariables false
set_option linter.unusedSimpArgs false
namespace Go.Proofs.Ytpkeabggkeecaaa
open Go.RowKit Go.Proofs.YtpkeabggkeecaaaW.PrintWords
namespace Nm
open Wd
section
variable {α : Type} [Inhabited α]
theorem sort_below (enc : α → Value) {w0 w : World} {blk : Nat} (hb : Below w0.heap.size w0 w) (hblk : w0.heap.size ≤ blk) (off m : Nat) (d : Array α) (os : Array Obj) : Below w0.heap.size w0 (sortWorld enc w blk off m d os) where
  os := hb.os
  tape := hb.tape
  output := hb.output
  size := by
    have := hb.size
    unfold sortWorld Sort.grow
    simp only [Array.size_append, Sort.size_putRow]
    show w0.heap.size ≤ w.heap.size + os.size
    omega
  block := fun k hk => by
    have h1 : k < (Sort.putRow enc (Sort.ahead w m) blk off d).heap.size := by
      rw [Sort.size_putRow]; show k < w.heap.size; have := hb.size; omega
    unfold sortWorld
    rw [Sort.heap_grow_old _ _ h1, ← hb.block k hk]
    unfold Sort.putRow Sort.mapBlock
    show (w.heap.modify blk _)[k]? = w.heap[k]?
    rw [Array.getElem?_modify, if_neg (by omega)]
theorem sort_cell (enc : α → Value) {w : World} {blk : Nat} {a : Addr} {u : Value} (h : w.cell? a = some u) (hne : a.block ≠ blk) (off m : Nat) (d : Array α) (os : Array Obj) : (sortWorld enc w blk off m d os).cell? a = some u := by
  have hlt := World.block_lt_of_cell? w _ h
  unfold sortWorld
  rw [Sort.cell?_grow _ _ _ (by rw [Sort.size_putRow]; exact hlt), Sort.cell?_putRow_other _ _ _ _ _ _ (.inl hne)]
  exact h
end
set_option maxRecDepth 100000 in
theorem order1_any (A0 : Option Addr) (c0 : Nat) (P : List (List ByteArray)) (B : Nat) (x y : Fin P.length) (w : World) (hr : KL.C w A0 P.length P) (hs : Lens P) (hb : w.cell? ⟨B, 0, none⟩ = some (.slice A0 P.length c0)) :
    Calls Try.prog 13 #[.int .i64 (x.val : Nat), .int .i64 (y.val : Nat), .pointer (some ⟨B, 0, none⟩)] w fun e w' => e = .returned (.int .i64 (cfP P x y)) ∧ ∃ q, w' = w.drewN q := by
  obtain ⟨x, hx⟩ := x
  obtain ⟨y, hy⟩ := y
  obtain ⟨ad, Bx, cx, e1, hxm, hcx, hrx⟩ := at_list hr x hx
  obtain ⟨ad2, By, cy, e2, hym, hcy, hry⟩ := at_list hr y hy
  have e3 := Option.some.inj (e1.symm.trans e2)
  subst e3
  subst e1
  clear e2
  have HC : Hid (∀ n : Nat, Calls Try.prog 14 #[.slice Bx (lx P x).length cx, .slice By (lx P y).length cy] (w.drewN n) fun e w' => e = .returned (.int .i64 (cmpL (lx P x) (lx P y))) ∧ w.drewN n = w') :=
    Lib.hid fun n => compare_any _ _ _ _ _ _ _ (Kd.C_drewN hrx _) (Kd.C_drewN hry _) (hs _ (nth_mem [] P x hx)) (hs _ (nth_mem [] P y hy))
  show Calls Try.prog 13 #[.int .i64 x, .int .i64 y, .pointer (some ⟨B, 0, none⟩)] w fun e w' => e = .returned (.int .i64 (cmpL (lx P x) (lx P y))) ∧ ∃ q, w' = w.drewN q
  clear hr hs hrx hry hcx hcy
  generalize cmpL (lx P x) (lx P y) = r at *
  generalize lx P x = xs at *
  generalize lx P y = ys at *
  go_enter Try.func13, Try.ntmps13
  go_wp2_with fail
  go_quiet ((go_at_call 14; exact Calls.quiet_of ((HC.out _).mono fun e w' ⟨h, h'⟩ => ⟨h, 0, h'.symm⟩)))
  go_wp2
  go_ret
  exact ⟨rfl, _, rfl⟩
end Nm
end Go.Proofs.Ytpkeabggkeecaaa
