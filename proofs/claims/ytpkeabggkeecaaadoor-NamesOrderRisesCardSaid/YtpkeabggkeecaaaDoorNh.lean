/- Layer 5 (names), walks over lists of lists of strings: twins, sameAll. Conditions: the lists are read at their addresses, lengths within the form's reach. -/
import Derived.Test.YtpkeabggkeecaaaDoorNf
import Derived.Test.YtpkeabggkeecaaaDoorNtw
set_option linter.unusedVariables false
set_option linter.unusedSimpArgs false
namespace Go.Proofs.YtpkeabggkeecaaaDoor
open Go.RowKit Go.Proofs.YtpkeabggkeecaaaDoorW.PrintWords
theorem infoStrs : (Tryd.prog.info? 22).map (fun i => (i.zero, i.size, i.bytes)) = some (some (.slice none 0 0), 1, 24) := by kernel_rfl
namespace Nm
open Wd
/-- The kind of a list of strings in a cell. -/
def KL : Kd (List ByteArray) := Kd.slice 9 Kd.string
def lx (xss : List (List ByteArray)) (k : Nat) : List ByteArray := nth [] xss k
theorem at_list {w : World} {A : Option Addr} {n : Nat} {xss : List (List ByteArray)} (h : KL.C w A n xss) (k : Nat) (hk : k < n) : ∃ ad B c, A = some ad ∧ w.cell? (ad.add k) = some (.slice B (lx xss k).length c) ∧ (lx xss k).length ≤ c ∧ Kd.string.C w B (lx xss k).length (lx xss k) := by
  obtain ⟨ad, c, e, _, hK, hc0⟩ := Kd.C_get h ([] : List ByteArray) k (by omega) (by omega)
  have hc : ∀ j u, c[j]? = some u → w.cell? (ad.add (k * 1 + j)) = some u := hc0
  obtain ⟨B, c0, rfl, l0, g0⟩ := hK
  exact ⟨ad, B, c0, e, by have hq := hc 0 _ rfl; rwa [Nat.mul_one, Nat.add_zero] at hq, l0, g0⟩
def MadeLists (w : World) (xss : List (List ByteArray)) (e : Ending) (w' : World) : Prop := ∃ v, e = .returned v ∧ KL.R 22 w' w.heap.size (fun _ => True) v xss ∧ Below w.heap.size w w'
/-- Each list within reach. -/
def Lens (xss : List (List ByteArray)) : Prop := ∀ x ∈ xss, x.length ≤ 8796093022207
/-- Are the lists the same? -/
def sameAllB : List (List ByteArray) → List (List ByteArray) → Bool
  | [], [] => true
  | x :: xs, y :: ys => if sameB x y = true then sameAllB xs ys else false
  | _, _ => false
theorem sameAllB_refl : ∀ xs, sameAllB xs xs = true
  | [] => rfl
  | x :: xs => by simp [sameAllB, sameB_refl, sameAllB_refl xs]
end Nm
end Go.Proofs.YtpkeabggkeecaaaDoor
