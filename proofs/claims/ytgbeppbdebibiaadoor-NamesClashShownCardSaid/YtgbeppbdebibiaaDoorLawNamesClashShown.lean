/- torrentlaw5.NamesClashShown: the two places that Clash tells do clash, as it tells, and no clash of the list ends ahead of it. No condition beyond the form's own. Its card is tied. -/
import Derived.Test.YtgbeppbdebibiaaDoorCards
import Derived.Test.YtgbeppbdebibiaaDoorTie
import Derived.Test.YtgbeppbdebibiaaDoorTab
import Derived.Test.YtgbeppbdebibiaaDoorRowU
import Derived.Test.YtgbeppbdebibiaaDoorCsw
import Derived.Shelf.Vars
set_option linter.unusedVariables false
set_option linter.unusedSimpArgs false
namespace Go.Proofs.YtgbeppbdebibiaaDoor.LawNamesClashShown
open Go.ChangeShapes Go.WideShapes Go.ChangeAt Go.RowKit Go.Proofs.YtgbeppbdebibiaaDoorW.PrintWords
theorem laid_met (os : Os) : laidMet Tryd.prog Rows.namesClashShownRow.laid ((Tab.laidWorld os).forCall (fun _ _ => 0) ⟨#[], #[.slice none 0 0, .int .i64 0, .int .i64 0], []⟩).memory :=
  laidMet_of_run' 8 (by kernel_rfl) (by kernel_rfl)
theorem reads (os : Os) {H : Type} (enc : TypeId × Value → H) : ∃ places, DataW.whole enc Tryd.prog ((Tab.laidWorld os).forCall (fun _ _ => 0) ⟨#[], #[.slice none 0 0, .int .i64 0, .int .i64 0], []⟩).memory Tryd.f7.params.toList Rows.namesClashShownSpec.vars false (#[.slice none 0 0, .int .i64 0, .int .i64 0] : Array Value).toList 8 = some ([.nil, .lit (.int .i64 0), .lit (.int .i64 0)], [], places) :=
  ⟨[], by kernel_rfl⟩
set_option maxRecDepth 100000 in
theorem lifted (os : Os) (started : os.Started) (H : Type) (enc : TypeId × Value → H) (F : Stop.Interp) :
    ReturnsInHanded {} Tryd.checked os 7 .any ((OpenSpec.ofChange Rows.namesClashShownSpec).preRow enc Tryd.prog Tryd.f7 Rows.namesClashShownRow.domain false Rows.namesClashShownRow.laid) (((OpenSpec.ofChange Rows.namesClashShownSpec).at F).post enc Tryd.prog Tryd.f7 false true false false) := by
  obtain ⟨places, hx⟩ := reads os enc
  refine returnsInHanded_of_row (C := Tryd.checked) (s := OpenSpec.ofChange Rows.namesClashShownSpec) Tab.own started (by kernel_rfl) Tryd.func7
    (witness_row_at (enc := enc) (C := Tryd.checked) false (Tab.laidWorld os) #[.slice none 0 0, .int .i64 0, .int .i64 0] rfl (by kernel_rfl) (by kernel_rfl) (by kernel_rfl)
      (OpenSpec.preRow_of_cond 8 hx (by kernel_rfl) (fun k hk => by cases hk) (by kernel_rfl) (laid_met os))) ?_
  intro W base args ds gs before hval hW _ hcond hzz hL hsh _
  refine Rw.post_law (tb := 4) (s := Rows.namesClashShownSpec) Tab.laidOut (by kernel_rfl) rfl Tryd.underlying4 rfl (fun ds hds => ?_) hW ?_
  · rw [Tryd.params7] at hds
    match ds, hds with
    | [d0, d1, d2], _ => rfl
  obtain ⟨p, hA, hz, rfl⟩ := Rw.args_of (s := OpenSpec.ofChange Rows.namesClashShownSpec) rfl hW hzz

  have hm := Tab.maxOk hsh
  clear hcond hzz hW hL hsh
  rw [Tryd.params7] at hA hz hval
  obtain ⟨v0, vs0, ds0, p0, xs, hargs, ⟨A0, c0, hK0, hc0, hr0⟩, ⟨hl0, hs0⟩, hA1, hz1⟩ := Rw.open_arg (Rw.opens_slice Tryd.underlying37 (by kernel_rfl) (Rw.opens_slice Tryd.underlying22 (by kernel_rfl) (Rw.opens_string Tryd.underlying9))) hA hz
  obtain ⟨v1, vs1, ds1, p1, ys, rfl, hK1, hG1, hA2, hz2⟩ := Rw.open_arg (Rw.opens_int Tryd.underlying3) hA1 hz1
  obtain ⟨v2, vs2, ds2, p2, zs, rfl, hK2, hG2, hA3, hz3⟩ := Rw.open_arg (Rw.opens_int Tryd.underlying3) hA2 hz2
  obtain rfl := Rw.open_end (args := args) hA3
  obtain rfl : args = #[v0, v1, v2] := by cases args; simp_all
  obtain ⟨a0, n0, d0, rfl⟩ := okWide_slice Tryd.underlying37 (hval 0 37 _ rfl rfl)
  have e0 : [Value.slice a0 n0 d0] = [Value.slice A0 xs.length c0] := hK0
  injection e0 with e0
  injection e0 with e0a e0b e0c
  subst e0a e0b e0c
  have hb0 : Tryd.prog.bytesOf 22 = 24 := by kernel_rfl
  have hq0 : xs.length ≤ 5864062014804 := by rw [hb0] at hl0; unfold reachBytes at hl0; omega
  have hL0 : Nm.Lens xs := fun x hx => by have := (hs0 x hx).1; rw [show Tryd.prog.bytesOf 9 = 16 by kernel_rfl] at this; unfold reachBytes at this; omega
  have hZ0 : Nm.Shorts xs := fun x hx s hs => by have := (hs0 x hx).2 s hs; unfold reachBytes at this; omega
  obtain ⟨n1, rfl, _⟩ := okWide_int Tryd.underlying3 (hval 1 3 _ rfl rfl)
  obtain rfl : n1 = ys := by have h : [Value.int .i64 n1] = [Value.int .i64 ys] := hK1; injection h with h; injection h
  obtain ⟨n2, rfl, _⟩ := okWide_int Tryd.underlying3 (hval 2 3 _ rfl rfl)
  obtain rfl : n2 = zs := by have h : [Value.int .i64 n2] = [Value.int .i64 zs] := hK2; injection h with h; injection h
  exact law_any _ _ _ _ _ W hr0 hc0 hq0 hL0 hZ0 hG1 hG2 hm
theorem said : Rows.NamesClashShownSaid :=
  OpenClaim.holds_of_cond 7 Tryd.f7 rfl rfl rfl rfl rfl rfl rfl ⟨rfl, rfl, rfl, rfl, rfl⟩ rfl rfl rfl rfl rfl (by kernel_rfl) Tryd.func7 (by kernel_rfl)
    (of_decide_eq_true (by kernel_rfl)) (by unfold Func.isWrapper; first | (rw [if_pos (by decide +kernel)]; kernel_rfl) | (rw [if_neg (by decide +kernel)]; exact ⟨rfl, rfl⟩))
    (fun os started H enc _ F => by rw [OpenClaim.pre_eq_preRow]; exact lifted os started H enc F)
theorem plain (f : FuncId) (fn : Func) (hf : Tryd.pinned.checked.prog.funcNamed "torrent/torrentlaw5.NamesClashShown" = some f) (hfn : Tryd.pinned.checked.prog.funcs[f]? = some fn) :
    false = Tryd.pinned.checked.prog.looks [] ∧ ∀ (j : Nat) t, fn.params[j]? = some t → Tryd.pinned.checked.prog.wantsStandIn t = false := by
  obtain rfl : f = 7 := Option.some.inj ((show Tryd.prog.funcNamed "torrent/torrentlaw5.NamesClashShown" = some 7 by kernel_rfl).symm.trans hf) |>.symm
  obtain rfl : fn = Tryd.f7 := (Option.some.inj (Tryd.func7.symm.trans hfn)).symm
  refine ⟨by kernel_rfl, fun j t ht => ?_⟩
  have hall : Tryd.f7.params.toList.all (fun t => !Tryd.pinned.checked.prog.wantsStandIn t) = true := by kernel_rfl
  have := List.all_eq_true.1 hall t (by simpa using Array.mem_of_getElem? ht)
  simpa using this
/-- The statement. -/
theorem proved : Rows.NamesClashShownCardSaid :=
  Claim7.holds_tied_plain_at .later [] _ _ _ _ said (fun _ h => by cases h) (by kernel_rfl) (fun _ h => by cases h) namesClashShown_row_tie rfl ⟨rfl, rfl⟩ (by kernel_rfl) rfl plain (by kernel_rfl)
#print axioms proved
end Go.Proofs.YtgbeppbdebibiaaDoor.LawNamesClashShown
