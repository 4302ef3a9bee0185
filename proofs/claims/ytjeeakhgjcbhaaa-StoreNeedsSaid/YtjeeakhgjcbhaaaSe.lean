/- Layer 14: pieces compared; a piece's length one higher; a row of pieces of the call's own, written over. -/
import Derived.Test.YtjeeakhgjcbhaaaFe
import Derived.Test.YtjeeakhgjcbhaaaSn
set_option linter.unusedVariables false
set_option linter.unusedSimpArgs false
namespace Go.Proofs.Ytjeeakhgjcbhaaa
open Go.RowKit Go.Proofs.YtjeeakhgjcbhaaaW.PrintWords
namespace Sn
open Wd Fl
theorem lits_pc (p : Pc) : Try.prog.keyLits 4 38 (encP p) = some ([Lit.int .i64 p.len, Lit.int .i64 p.leaves, Lit.bool p.known] ++ p.hash.map (Lit.int .u8)) := by
  have hh : Try.prog.keyLits 3 23 (p.hash.map (Value.int .u8)) = some (p.hash.map (Lit.int .u8)) := lits_arr (d := 1) (n := 32) Try.underlying23 Try.underlying5 (by kernel_rfl) (by kernel_rfl) p.h32 p.w3
  have ht : (p.hash.map (Value.int .u8)).take 32 = p.hash.map (Value.int .u8) := List.take_of_length_le (by rw [List.length_map, p.h32]; omega)
  have c1 : Try.prog.cellsOf 3 = 1 := by kernel_rfl
  have c2 : Try.prog.cellsOf 4 = 1 := by kernel_rfl
  have c3 : Try.prog.cellsOf 23 = 32 := by kernel_rfl
  have c4 : (encP p).length = Try.prog.cellsOf 38 := by rw [encP_len]; kernel_rfl
  unfold Program.keyLits
  rw [Try.underlying38]
  simp only
  rw [if_pos ⟨c4, by kernel_rfl⟩]
  simp only [List.mapM_cons, List.mapM_nil, c1, c2, c3, encP, List.cons_append, List.nil_append, List.drop_zero, List.drop_succ_cons, List.take_succ_cons, List.take_zero, ht, hh]
  simp [Program.keyLits, Try.underlying3, Try.underlying4, p.w1, p.w2]
theorem eq_pc (p : Pc) (w : World) : (Op.equalIn 10000 38 (.agg (encP p).toArray) (.agg (encP p).toArray)).run Try.prog w = .ok true w :=
  eql_same (D := 4) (m := 4) (by kernel_rfl) (by omega) (by unfold Value.formed; rw [Try.underlying38]; simp only [List.size_toArray, encP_len]; kernel_rfl) (by simpa [Value.cells] using lits_pc p) w
end Sn
end Go.Proofs.Ytjeeakhgjcbhaaa
