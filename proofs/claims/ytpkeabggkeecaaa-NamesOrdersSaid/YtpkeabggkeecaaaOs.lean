/- Layer 5, walks: the sort of the places, by the shelf's contract of slices.SortFunc. -/
import Derived.Test.YtpkeabggkeecaaaOr
import Derived.Test.YtpkeabggkeecaaaSrt
set_option linter.unusedVariables false
set_option linter.unusedSimpArgs false
namespace Go.Proofs.Ytpkeabggkeecaaa
open Go.RowKit Go.Proofs.YtpkeabggkeecaaaW.PrintWords
namespace Nm
open Wd
def encF (n : Nat) (i : Fin n) : Value := .int .i64 ((i.val : Nat) : Int)
theorem sorts_any (A0 : Option Addr) (c0 : Nat) (P : List (List ByteArray)) (B blk cap : Nat) (w0 w : World) (hr : KL.C w0 A0 P.length P) (hs : Lens P) (hz : P.length ≤ 5864062014804) (hb : Below w0.heap.size w0 w) (hblk0 : w0.heap.size ≤ blk) (hblk : blk < w.heap.size)
    (hbox : w.cell? ⟨B, 0, none⟩ = some (.slice A0 P.length c0)) (hne : B ≠ blk) (ha : Apart P) (hn : 0 < P.length)
    (hH : haveI : Inhabited (Fin P.length) := ⟨⟨0, hn⟩⟩; Sort.Holds (encF P.length) w blk 0 (List.finRange P.length).toArray) :
    Calls Try.prog 12 #[.slice (some ⟨blk, 0, none⟩) P.length cap, .func (.func 13) #[] #[.pointer (some ⟨B, 0, none⟩)]] w fun e w' =>
      e = .returned (.tuple #[]) ∧ haveI : Inhabited (Fin P.length) := ⟨⟨0, hn⟩⟩; ∃ m os, w' = sortWorld (encF P.length) w blk 0 m (sortF P).toArray os := by
  letI : Inhabited (Fin P.length) := ⟨⟨0, hn⟩⟩
  have eg : ∀ args w, (callFunc 13 args).run Try.prog w = .ok (.enter 13 args) w := enters_of Try.func13 (by kernel_rfl) rfl
  have hsize : (List.finRange P.length).toArray.size = P.length := by simp
  have hlt : ltOf (cfP P) = before P := by funext x y; exact cfP_lt P x y
  have hcmp : CmpReads Try.prog 13 #[.pointer (some ⟨B, 0, none⟩)] (encF P.length) (cfP P) blk 0 (List.finRange P.length).toArray.size w := fun m os dk hd x y => by
    have hr2 := Kd.C_below hr (sort_below (encF P.length) hb hblk0 0 m dk os)
    exact order1_any A0 c0 P B x y _ hr2 hs (sort_cell (encF P.length) hbox hne 0 m dk os)
  have hcon := Any.slices_SortFunc_total Try.sortInts (encF P.length) (fun _ => rfl) (cfP P) (by rw [hlt]; exact swo_before P) 13 #[.pointer (some ⟨B, 0, none⟩)] blk 0 cap (List.finRange P.length).toArray w eg hcmp.lays hH hblk (by rw [hsize]; omega)
    (by rw [hlt]; exact fun x y h1 h2 => before_one ha x y h1 h2)
  rw [hsize, hlt] at hcon
  exact hcon
end Nm
end Go.Proofs.Ytpkeabggkeecaaa
