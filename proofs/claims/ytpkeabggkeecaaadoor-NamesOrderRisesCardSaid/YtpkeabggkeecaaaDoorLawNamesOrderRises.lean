/- torrentlaw5.NamesOrderRises: Order is the places of all paths, each once, so that the paths rise; and there is an order just if all are paths, not too many, of which no two clash. No condition beyond the form's own. Its card is tied. -/
import Derived.Test.YtpkeabggkeecaaaDoorCards
import Derived.Test.YtpkeabggkeecaaaDoorTie
import Derived.Test.YtpkeabggkeecaaaDoorTab
import Derived.Test.YtpkeabggkeecaaaDoorRowU
import Derived.Test.YtpkeabggkeecaaaDoorOrw
import Derived.Shelf.Vars
set_option linter.unusedVariables false
set_option linter.unusedSimpArgs false
namespace Go.Proofs.YtpkeabggkeecaaaDoor.LawNamesOrderRises
open Go.ChangeShapes Go.WideShapes Go.ChangeAt Go.RowKit Go.Proofs.YtpkeabggkeecaaaDoorW.PrintWords
theorem laid_met (os : Os) : laidMet Tryd.prog Rows.namesOrderRisesRow.laid ((Tab.laidWorld os).forCall (fun _ _ => 0) ⟨#[], #[.slice none 0 0], []⟩).memory :=
  laidMet_of_run' 8 (by kernel_rfl) (by kernel_rfl)
theorem reads (os : Os) {H : Type} (enc : TypeId × Value → H) : ∃ places, DataW.whole enc Tryd.prog ((Tab.laidWorld os).forCall (fun _ _ => 0) ⟨#[], #[.slice none 0 0], []⟩).memory Tryd.f8.params.toList Rows.namesOrderRisesSpec.vars false (#[.slice none 0 0] : Array Value).toList 8 = some ([.nil], [], places) :=
  ⟨[], by kernel_rfl⟩
set_option maxRecDepth 100000 in
theorem lifted (os : Os) (started : os.Started) (H : Type) (enc : TypeId × Value → H) (F : Stop.Interp) :
    ReturnsInHanded {} Tryd.checked os 8 .any ((OpenSpec.ofChange Rows.namesOrderRisesSpec).preRow enc Tryd.prog Tryd.f8 Rows.namesOrderRisesRow.domain false Rows.namesOrderRisesRow.laid) (((OpenSpec.ofChange Rows.namesOrderRisesSpec).at F).post enc Tryd.prog Tryd.f8 false true false false) := by
  obtain ⟨places, hx⟩ := reads os enc
  refine returnsInHanded_of_row (C := Tryd.checked) (s := OpenSpec.ofChange Rows.namesOrderRisesSpec) Tab.own started (by kernel_rfl) Tryd.func8
    (witness_row_at (enc := enc) (C := Tryd.checked) false (Tab.laidWorld os) #[.slice none 0 0] rfl (by kernel_rfl) (by kernel_rfl) (by kernel_rfl)
      (OpenSpec.preRow_of_cond 8 hx (by kernel_rfl) (fun k hk => by cases hk) (by kernel_rfl) (laid_met os))) ?_
  intro W base args ds gs before hval hW _ hcond hzz hL hsh _
  refine Rw.post_law (tb := 4) (s := Rows.namesOrderRisesSpec) Tab.laidOut (by kernel_rfl) rfl Tryd.underlying4 rfl (fun ds hds => ?_) hW ?_
  · rw [Tryd.params8] at hds
    match ds, hds with
    | [d0], _ => rfl
  obtain ⟨p, hA, hz, rfl⟩ := Rw.args_of (s := OpenSpec.ofChange Rows.namesOrderRisesSpec) rfl hW hzz

  have hm := Tab.maxOk hsh
  clear hcond hzz hW hL hsh
  rw [Tryd.params8] at hA hz hval
  obtain ⟨v0, vs0, ds0, p0, xs, hargs, ⟨A0, c0, hK0, hc0, hr0⟩, ⟨hl0, hs0⟩, hA1, hz1⟩ := Rw.open_arg (Rw.opens_slice Tryd.underlying37 (by kernel_rfl) (Rw.opens_slice Tryd.underlying22 (by kernel_rfl) (Rw.opens_string Tryd.underlying9))) hA hz
  obtain rfl := Rw.open_end (args := args) hA1
  obtain rfl : args = #[v0] := by cases args; simp_all
  obtain ⟨a0, n0, d0, rfl⟩ := okWide_slice Tryd.underlying37 (hval 0 37 _ rfl rfl)
  have e0 : [Value.slice a0 n0 d0] = [Value.slice A0 xs.length c0] := hK0
  injection e0 with e0
  injection e0 with e0a e0b e0c
  subst e0a e0b e0c
  have hb0 : Tryd.prog.bytesOf 22 = 24 := by kernel_rfl
  have hq0 : xs.length ≤ 5864062014804 := by rw [hb0] at hl0; unfold reachBytes at hl0; omega
  have hL0 : Nm.Lens xs := fun x hx => by have := (hs0 x hx).1; rw [show Tryd.prog.bytesOf 9 = 16 by kernel_rfl] at this; unfold reachBytes at this; omega
  have hZ0 : Nm.Shorts xs := fun x hx s hs => by have := (hs0 x hx).2 s hs; unfold reachBytes at this; omega
  exact law_any _ _ _ W hr0 hc0 hq0 hL0 hZ0 hm
theorem said : Rows.NamesOrderRisesSaid :=
  OpenClaim.holds_of_cond 8 Tryd.f8 rfl rfl rfl rfl rfl rfl rfl ⟨rfl, rfl, rfl, rfl, rfl⟩ rfl rfl rfl rfl rfl (by kernel_rfl) Tryd.func8 (by kernel_rfl)
    (of_decide_eq_true (by kernel_rfl)) (by unfold Func.isWrapper; first | (rw [if_pos (by decide +kernel)]; kernel_rfl) | (rw [if_neg (by decide +kernel)]; exact ⟨rfl, rfl⟩))
    (fun os started H enc _ F => by rw [OpenClaim.pre_eq_preRow]; exact lifted os started H enc F)
theorem plain (f : FuncId) (fn : Func) (hf : Tryd.pinned.checked.prog.funcNamed "torrent/torrentlaw5.NamesOrderRises" = some f) (hfn : Tryd.pinned.checked.prog.funcs[f]? = some fn) :
    false = Tryd.pinned.checked.prog.looks [] ∧ ∀ (j : Nat) t, fn.params[j]? = some t → Tryd.pinned.checked.prog.wantsStandIn t = false := by
  obtain rfl : f = 8 := Option.some.inj ((show Tryd.prog.funcNamed "torrent/torrentlaw5.NamesOrderRises" = some 8 by kernel_rfl).symm.trans hf) |>.symm
  obtain rfl : fn = Tryd.f8 := (Option.some.inj (Tryd.func8.symm.trans hfn)).symm
  refine ⟨by kernel_rfl, fun j t ht => ?_⟩
  have hall : Tryd.f8.params.toList.all (fun t => !Tryd.pinned.checked.prog.wantsStandIn t) = true := by kernel_rfl
  have := List.all_eq_true.1 hall t (by simpa using Array.mem_of_getElem? ht)
  simpa using this
/-- The statement. -/
theorem proved : Rows.NamesOrderRisesCardSaid :=
  Claim7.holds_tied_plain_at .later [] _ _ _ _ said (fun _ h => by cases h) (by kernel_rfl) (fun _ h => by cases h) namesOrderRises_row_tie rfl ⟨rfl, rfl⟩ (by kernel_rfl) rfl plain (by kernel_rfl)
#print axioms proved
end Go.Proofs.YtpkeabggkeecaaaDoor.LawNamesOrderRises
