/- torrentlaw5.NamesSplits, of texts within the bound: Split answers as the document does. Its card is tied. -/
import Derived.Test.YtdnkbpfgbpnofaaDoorCards
import Derived.Test.YtdnkbpfgbpnofaaDoorTie
import Derived.Test.YtdnkbpfgbpnofaaDoorTab
import Derived.Test.YtdnkbpfgbpnofaaDoorRowU
import Derived.Test.YtdnkbpfgbpnofaaDoorNs
import Derived.Shelf.Vars
set_option linter.unusedVariables false
set_option linter.unusedSimpArgs false
namespace Go.Proofs.YtdnkbpfgbpnofaaDoor.LawNamesSplits
open Go.ChangeShapes Go.WideShapes Go.ChangeAt Go.RowKit Go.Proofs.YtdnkbpfgbpnofaaDoorW.PrintWords
open Go.Proofs.YtdnkbpfgbpnofaaDoor.Wd Go.Proofs.YtdnkbpfgbpnofaaDoor.Nm
set_option maxRecDepth 100000 in
theorem law_any (s : ByteArray) (w : World) (hs : s.size ≤ 1048576) (hm : Nm.MaxOk w) : Calls Tryd.prog 3 #[.string s] w fun e w' => e = .returned (.bool true) ∧ Below w.heap.size w w' := by
  have HL := Lib.hid (split_any s w (by omega) hm)
  have HL2 : Hid (∀ w, Calls Tryd.prog 5 #[.string s] w (SplitR s w)) := Lib.hid fun w => refSplit_any s w (by omega)
  have hsz : Hid ((splitL s).length ≤ 8796093022207) := Lib.hid (by
    unfold splitL; split
    · rw [split_len]; have := Lib.countB_le sl (by decide) _ s (Nat.le_refl _); omega
    · simp)
  have HS := Lib.hid (sameB_refl (splitL s))
  unfold SplitR at HL HL2
  clear hm hs
  generalize path (splitS s) = n at *
  generalize splitL s = xs at *
  have hn : (n == n) = true := by simp
  go_enter Tryd.func3, Tryd.ntmps3
  go_wp2_with fail
  go_at_call 4
  refine (HL.out).mono ?_
  rintro e w1 ⟨A, c, rfl, hc, hr, hb1⟩
  have HR := Aside0.mk hr
  clear hr
  go_wp2_with fail
  go_at_call 5
  refine (HL2.out _).mono ?_
  rintro e w2 ⟨B, d, rfl, hd, hr2, hb2⟩
  have HR2 := Aside0.mk hr2
  clear hr2
  go_wp2_with fail
  go_at_call 6
  refine (same_any _ _ _ _ _ _ _ (Kd.C_below HR.out hb2) HR2.out hsz.out).mono ?_
  rintro e w3 ⟨rfl, hb3⟩
  rw [HS.out]
  go_wp2
  go_ret
  exact ⟨rfl, below_step (below_step hb1 hb2) hb3⟩
theorem laid_met (os : Os) : laidMet Tryd.prog Rows.namesSplitsUptoRow.laid ((Tab.laidWorld os).forCall (fun _ _ => 0) ⟨#[], #[.string ByteArray.empty], []⟩).memory :=
  laidMet_of_run' 8 (by kernel_rfl) (by kernel_rfl)
theorem reads (os : Os) {H : Type} (enc : TypeId × Value → H) : ∃ places, DataW.whole enc Tryd.prog ((Tab.laidWorld os).forCall (fun _ _ => 0) ⟨#[], #[.string ByteArray.empty], []⟩).memory Tryd.f3.params.toList Rows.namesSplitsSpec.vars false (#[.string ByteArray.empty] : Array Value).toList 8 = some ([.lit (.string [])], [], places) :=
  ⟨[], by kernel_rfl⟩
set_option maxRecDepth 100000 in
theorem lifted (os : Os) (started : os.Started) (H : Type) (enc : TypeId × Value → H) (F : Stop.Interp) :
    ReturnsInHanded {} Tryd.checked os 3 .any ((Rows.OpenSpec.upto Rows.namesSplitsSpec).preRow enc Tryd.prog Tryd.f3 Rows.namesSplitsUptoRow.domain false Rows.namesSplitsUptoRow.laid) (((Rows.OpenSpec.upto Rows.namesSplitsSpec).at F).post enc Tryd.prog Tryd.f3 false true false false) := by
  obtain ⟨places, hx⟩ := reads os enc
  refine returnsInHanded_of_row (C := Tryd.checked) (s := Rows.OpenSpec.upto Rows.namesSplitsSpec) Tab.own started (by kernel_rfl) Tryd.func3
    (witness_row_at (enc := enc) (C := Tryd.checked) false (Tab.laidWorld os) #[.string ByteArray.empty] rfl (by kernel_rfl) (by kernel_rfl) (by kernel_rfl)
      (OpenSpec.preRow_of_cond 8 hx (by kernel_rfl) (fun k hk => by cases hk; kernel_rfl) (by kernel_rfl) (laid_met os))) ?_
  intro W base args ds gs before hval hW _ hcond hzz hL hsh _
  refine Rw.post_law (tb := 4) (s := Rows.namesSplitsSpec) Tab.laidOut (by kernel_rfl) rfl Tryd.underlying4 rfl (fun ds hds => ?_) hW ?_
  · rw [Tryd.params3] at hds
    match ds, hds with
    | [d0], _ => rfl
  obtain ⟨p, hA, hz, rfl⟩ := Rw.args_of (s := Rows.OpenSpec.upto Rows.namesSplitsSpec) rfl hW hzz
  have hB := Rw.bulk_le (hcond _ rfl)
  have hm := Tab.maxOk hsh
  clear hcond hzz hW hL hsh
  rw [Tryd.params3] at hA hz hval
  obtain ⟨v0, vs0, ds0, p0, xs, hargs, hK0, hG0, hA1, hB1⟩ := Rw.open_argB (Rw.opensB_string Tryd.underlying9) hA hB
  obtain rfl := Rw.open_end (args := args) hA1
  obtain rfl : args = #[v0] := by cases args; simp_all
  obtain ⟨s0, rfl⟩ := okWide_string Tryd.underlying9 (hval 0 9 _ rfl rfl)
  obtain rfl : s0 = xs := by have h : [Value.string s0] = [Value.string xs] := hK0; injection h with h; injection h
  exact law_any _ W hG0 hm
theorem said : Rows.NamesSplitsUptoSaid :=
  OpenClaim.holds_of_cond 3 Tryd.f3 rfl rfl rfl rfl rfl rfl rfl ⟨rfl, rfl, rfl, rfl, rfl⟩ rfl rfl rfl rfl rfl (by kernel_rfl) Tryd.func3 (by kernel_rfl)
    (of_decide_eq_true (by kernel_rfl)) (by unfold Func.isWrapper; first | (rw [if_pos (by decide +kernel)]; kernel_rfl) | (rw [if_neg (by decide +kernel)]; exact ⟨rfl, rfl⟩))
    (fun os started H enc _ F => by rw [OpenClaim.pre_eq_preRow]; exact lifted os started H enc F)
theorem plain (f : FuncId) (fn : Func) (hf : Tryd.pinned.checked.prog.funcNamed "torrent/torrentlaw5.NamesSplits" = some f) (hfn : Tryd.pinned.checked.prog.funcs[f]? = some fn) :
    false = Tryd.pinned.checked.prog.looks [] ∧ ∀ (j : Nat) t, fn.params[j]? = some t → Tryd.pinned.checked.prog.wantsStandIn t = false := by
  obtain rfl : f = 3 := Option.some.inj ((show Tryd.prog.funcNamed "torrent/torrentlaw5.NamesSplits" = some 3 by kernel_rfl).symm.trans hf) |>.symm
  obtain rfl : fn = Tryd.f3 := (Option.some.inj (Tryd.func3.symm.trans hfn)).symm
  refine ⟨by kernel_rfl, fun j t ht => ?_⟩
  have hall : Tryd.f3.params.toList.all (fun t => !Tryd.pinned.checked.prog.wantsStandIn t) = true := by kernel_rfl
  have := List.all_eq_true.1 hall t (by simpa using Array.mem_of_getElem? ht)
  simpa using this
/-- The statement. -/
theorem proved : Rows.NamesSplitsUptoCardSaid :=
  Claim7.holds_tied_plain_at .later [] _ _ _ _ said (fun _ h => by cases h) (by kernel_rfl) (fun _ h => by cases h) namesSplitsUpto_row_tie rfl ⟨rfl, rfl⟩ (by kernel_rfl) rfl plain (by kernel_rfl)
#print axioms proved
end Go.Proofs.YtdnkbpfgbpnofaaDoor.LawNamesSplits
