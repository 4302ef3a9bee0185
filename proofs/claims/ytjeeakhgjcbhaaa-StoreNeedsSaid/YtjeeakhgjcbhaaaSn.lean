/- Layer 14, walks: told, the copy of a list of pieces. -/
import Derived.Test.YtjeeakhgjcbhaaaFl
import Derived.Test.YtjeeakhgjcbhaaaP2
import Derived.Deep.Slices
set_option linter.unusedVariables false
set_option linter.unusedSimpArgs false
namespace Go.Proofs.Ytjeeakhgjcbhaaa
open Go.RowKit Go.Proofs.YtjeeakhgjcbhaaaW.PrintWords
namespace Sn
open Wd Fl
structure Pc where
  len : Int
  leaves : Int
  known : Bool
  hash : List Int
  h32 : hash.length = 32
  w1 : (Lit.int .i64 len).wf = true
  w2 : (Lit.int .i64 leaves).wf = true
  w3 : ∀ z ∈ hash, (Lit.int .u8 z).wf = true
def encP (p : Pc) : List Value := [.int .i64 p.len, .int .i64 p.leaves, .bool p.known] ++ p.hash.map (.int .u8)
theorem encP_len (p : Pc) : (encP p).length = 35 := by unfold encP; simp [p.h32]
theorem encP_one (p : Pc) : ∀ u ∈ encP p, u.oneCell' = true := by
  intro u hu
  unfold encP at hu
  simp only [List.mem_append, List.mem_cons, List.not_mem_nil, or_false, List.mem_map] at hu
  rcases hu with (rfl | rfl | rfl) | ⟨z, _, rfl⟩ <;> rfl
def KP : Kd Pc := flat encP 35 encP_len encP_one
def pc0 : Pc := ⟨0, 0, false, List.replicate 32 0, by simp, rfl, rfl, fun z hz => by rw [(List.mem_replicate.1 hz).2]; rfl⟩
def px (xs : List Pc) (k : Nat) : Pc := xs.getD k pc0
theorem infoP : (Try.prog.info? 38).map (fun i => (i.zero, i.size, i.bytes)) = some (some (.agg ((encP pc0).toArray)), 35, 56) := by kernel_rfl
theorem at_pc {w : World} {A : Option Addr} {m : Nat} {xs : List Pc} (h : KP.C w A m xs) (k : Nat) (hk : k < m) : ∃ ad, A = some ad ∧ ∀ j u, (encP (px xs k))[j]? = some u → w.cell? (ad.add (k * 35 + j)) = some u := at_flat pc0 h k hk
set_option maxRecDepth 100000 in
theorem told_any (A0 : Option Addr) (c0 : Nat) (xs : List Pc) (w : World) (hr : KP.C w A0 xs.length xs) (hl : xs.length * 56 ≤ 140737488355328) :
    Calls Try.prog 14 #[.slice A0 xs.length c0, .slice none 0 0] w fun e w' => ∃ v, e = .returned v ∧ KP.R 38 w' w.heap.size (fun _ => True) v xs ∧ Below w.heap.size w w' := by
  have HR := Aside0.mk hr
  clear hr
  go_enter Try.func14, Try.ntmps14
  go_wp2
  go_loopw [5, 6] (fun q i wr => ∃ k : Nat, k ≤ xs.length ∧ i = .int .i64 k ∧ Aside0 (KP.R 38 wr w.heap.size (fun _ => True) q (xs.take k)) ∧ Aside0 (Below w.heap.size w wr)) (fun _ i _ => xs.length - (intOf i).toNat)
  case atStart => exact ⟨0, by omega, rfl, ⟨Kd.R_nil _ _ _ _ _⟩, ⟨Below.refl _ _⟩⟩
  case round =>
    obtain ⟨k, hk, rfl, HO, HB⟩ := hrel
    by_cases hlt : k < xs.length
    · obtain ⟨ad, e0, hx⟩ := at_pc HR.out k hlt
      cases e0
      have HX := Lib.hid hx
      clear hx
      have HI : Hid ((Try.prog.info? 38).map (·.size) = some (encP (px xs k)).length) := Lib.hid (by rw [encP_len]; kernel_rfl)
      have HJ : Hid ((Try.prog.info? 38).map (·.size) = some (encP (px xs k)).toArray.size) := Lib.hid (by rw [List.size_toArray, encP_len]; kernel_rfl)
      have HK : Hid ((Try.prog.info? 38).map (fun i => (i.zero, i.size)) = some (some (.agg (encP pc0).toArray), (encP (px xs k)).toArray.size)) := Lib.hid (by rw [List.size_toArray, encP_len]; kernel_rfl)
      have HM : Hid ((encP (px xs k)).toArray.size = 35) := Lib.hid (by rw [List.size_toArray, encP_len])
      have HN : Hid (35 = (encP (px xs k)).toArray.size) := Lib.hid (by rw [List.size_toArray, encP_len])
      have hz : (xs.take k).length < xs.length := by rw [List.length_take]; omega
      have HT : Hid (xs.take (k + 1) = xs.take k ++ [px xs k]) := Lib.hid (getD_take xs k pc0 hlt)
      generalize px xs k = p at *
      go_wp2_with (first | ((with_reducible refine Fl.wpList_load rfl 38 (.tmp 16) rfl (ad.add (k * 35)) ?lx (encP p) _ ?lc Try.underlying38 rfl ?li ?_); (case lx => rfl); (case lc => exact fun j v h => (by rw [Go.Deep.add_add]; exact cell_stay HB.out (HX.out j v h))); (case li => exact HI.out)) | ((with_reducible refine Fl.wpList_store_fresh rfl 38 (.tmp 7) (.tmp 17) rfl 38 _ (encP p).toArray ?sx ?sy ?si ?so ?s1 ?_); (case sx => rfl); (case sy => rfl); (case si => exact HJ.out); (case so => exact HN.out); (case s1 => exact Fl.all_one (encP_one p))) | ((with_reducible refine Fl.wpList_load_fresh rfl 38 (.tmp 7) rfl 38 (encP p).toArray ?fx _ Try.underlying38 rfl ?fi ?_); (case fx => rfl); (case fi => exact HJ.out)) | ((with_reducible refine Fl.wpList_lit_one rfl 35 38 (.tmp 33) rfl (encP p).toArray ?tx Try.underlying35 (.agg (encP pc0).toArray) ?ti ?tp ?ts ?_); (case tx => rfl); (case ti => exact HK.out); (case tp => (rw [HM.out]; omega)); (case ts => (rw [HM.out]; omega))) | (at_builtin; refine Kd.R_append KP (w0 := w) w.heap.size rfl (.tmp 32) (.tmp 34) 35 38 (.agg (encP pc0).toArray) 56 rfl Try.underlying35 infoP rfl (by decide) (by omega) u5 (xs.take k) (p) (encP p) (fun _ => True) (fun _ => False) rfl rfl ?aP (fun _ h => h.elim) ?aF ?aO ?aB ?aS ?aL ?_; (case aP => exact rfl); (case aB => exact (below_alloc HB.out _)); (case aF => exact (fun _ _ => trivial)); (case aO => exact (Kd.R_alloc HO.out _)); (case aS => exact below_size (below_alloc HB.out _)); (case aL => omega); intro q1 wq ho hb hg hat; rw [← HT.out] at ho; have HO1 := Aside0.mk ho; have HB1 := Aside0.mk hb; clear ho hb hg hat HB HO))
      go_roundw
      case rel => exact ⟨k + 1, by omega, by go_num, HO1, HB1⟩
      case measure => simp [intOf]; omega
    · go_wp2
      go_ret
      obtain rfl : k = xs.length := by omega
      rw [List.take_length] at HO
      exact ⟨_, rfl, HO.out, HB.out⟩
end Sn
end Go.Proofs.Ytjeeakhgjcbhaaa
