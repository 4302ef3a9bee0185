/- torrentlaw5.NamesSigns: where the first fault of a text that is put together lies. No condition beyond the form's own. Its card is tied. -/
import Derived.Test.YtgbeppbdebibiaaDoorCards
import Derived.Test.YtgbeppbdebibiaaDoorTie
import Derived.Test.YtgbeppbdebibiaaDoorTab
import Derived.Test.YtgbeppbdebibiaaDoorRowU
import Derived.Test.YtgbeppbdebibiaaDoorAw
import Derived.Test.YtgbeppbdebibiaaDoorPu
import Derived.Shelf.Vars
set_option linter.unusedVariables false
set_option linter.unusedSimpArgs false
namespace Go.Proofs.YtgbeppbdebibiaaDoor.LawNamesSigns
open Go.ChangeShapes Go.WideShapes Go.ChangeAt Go.RowKit Go.Proofs.YtgbeppbdebibiaaDoorW.PrintWords
open Go.Proofs.YtgbeppbdebibiaaDoor.Wd Go.Proofs.YtgbeppbdebibiaaDoor.Nm
set_option maxRecDepth 100000 in
theorem law_any (a b : ByteArray) (w : World) (ha : a.size ≤ 140737488351232) (hb : b.size ≤ 140737488351232) (hm : MaxOk w) :
    Calls Tryd.prog 5 #[.string a, .string b] w fun e w' => e = .returned (.bool true) ∧ Below w.heap.size w w' := by
  have HW := Lib.hid (awake_any w hm)
  have HX : Hid (∀ w, Calls Tryd.prog 15 #[.string a] w fun e w' => e = .returned (.int .i64 (fault a)) ∧ Below w.heap.size w w') := Lib.hid fun w => utf8_any a w
  have HY : Hid (∀ w, Calls Tryd.prog 15 #[.string b] w fun e w' => e = .returned (.int .i64 (fault b)) ∧ Below w.heap.size w w') := Lib.hid fun w => utf8_any b w
  have HZ : Hid (∀ w, Calls Tryd.prog 15 #[.string (a ++ b)] w fun e w' => e = .returned (.int .i64 (fault (a ++ b))) ∧ Below w.heap.size w w') := Lib.hid fun w => utf8_any _ w
  have HM : Hid (∀ w, Calls Tryd.prog 15 #[.string (a ++ (⟨#[109]⟩ : ByteArray) ++ b)] w fun e w' => e = .returned (.int .i64 (fault (a ++ sM ++ b))) ∧ Below w.heap.size w w') := Lib.hid fun w => utf8_any _ w
  have rx := fault_range a
  have ry := fault_range b
  by_cases hx : fault a = -1
  · rw [fault_app b hx] at HZ
    rw [fault_amb b hx] at HM
    rw [hx] at HX
    clear hx rx
    by_cases hy : fault b = -1
    · rw [if_pos hy] at HZ HM
      rw [hy] at HY
      clear hy ry
      have q1 : decide ((a.size : Int) ≤ -1) = false := decide_eq_false (by omega)
      have q2 : decide ((b.size : Int) ≤ -1) = false := decide_eq_false (by omega)
      go_enter Tryd.func5, Tryd.ntmps5
      go_wp2_with fail
      go_at_call 9
      refine HW.out.mono ?_
      rintro e w1 ⟨rfl, hb1⟩
      go_wp2_with fail
      go_at_call 15
      refine (HX.out _).mono ?_
      rintro e w2 ⟨rfl, hb2⟩
      replace hb2 := below_step hb1 hb2
      go_wp2_with fail
      go_at_call 15
      refine (HY.out _).mono ?_
      rintro e w3 ⟨rfl, hb3⟩
      replace hb3 := below_step hb2 hb3
      go_wp2_with fail
      go_at_call 15
      refine (HZ.out _).mono ?_
      rintro e w4 ⟨rfl, hb4⟩
      replace hb4 := below_step hb3 hb4
      go_wp2_with fail
      go_at_call 15
      refine (HM.out _).mono ?_
      rintro e w5 ⟨rfl, hb5⟩
      replace hb5 := below_step hb4 hb5
      clear hb1 hb2 hb3 hb4
      go_wp2
      all_goals first | omega | skip
      go_ret
      exact ⟨rfl, hb5⟩
    · rw [if_neg hy] at HZ HM
      replace ry := ry.resolve_left hy
      obtain ⟨r1, r2⟩ := ry
      generalize fault b = y at *
      have q1 : decide ((a.size : Int) ≤ -1) = false := decide_eq_false (by omega)
      have q2 : decide ((b.size : Int) ≤ y) = false := decide_eq_false (by omega)
      have q3 : decide (y < -1) = false := decide_eq_false (by omega)
      have q4 : (y == -1) = false := by simp [hy]
      have q5 : ((a.size : Int) + y == (a.size : Int) + y) = true := by simp
      have q6 : ((a.size : Int) + 1 + y == (a.size : Int) + 1 + y) = true := by simp
      clear hy
      go_enter Tryd.func5, Tryd.ntmps5
      go_wp2_with fail
      go_at_call 9
      refine HW.out.mono ?_
      rintro e w1 ⟨rfl, hb1⟩
      go_wp2_with fail
      go_at_call 15
      refine (HX.out _).mono ?_
      rintro e w2 ⟨rfl, hb2⟩
      replace hb2 := below_step hb1 hb2
      go_wp2_with fail
      go_at_call 15
      refine (HY.out _).mono ?_
      rintro e w3 ⟨rfl, hb3⟩
      replace hb3 := below_step hb2 hb3
      go_wp2_with fail
      go_at_call 15
      refine (HZ.out _).mono ?_
      rintro e w4 ⟨rfl, hb4⟩
      replace hb4 := below_step hb3 hb4
      go_wp2_with fail
      go_at_call 15
      refine (HM.out _).mono ?_
      rintro e w5 ⟨rfl, hb5⟩
      replace hb5 := below_step hb4 hb5
      clear hb1 hb2 hb3 hb4
      go_wp2
      all_goals first | omega | skip
      go_ret
      exact ⟨rfl, hb5⟩
  · rw [fault_amb' b hx] at HM
    replace rx := rx.resolve_left hx
    obtain ⟨r1, r2⟩ := rx
    have p1 : decide ((a.size : Int) ≤ fault a) = false := decide_eq_false (by omega)
    have p2 : decide (fault a < -1) = false := decide_eq_false (by omega)
    have p3 : (fault a == -1) = false := by simp [hx]
    have p4 : (fault a == fault a) = true := by simp
    clear hx
    generalize fault a = x at *
    generalize fault (a ++ b) = z at *
    by_cases hy : fault b = -1
    · rw [hy] at HY
      clear hy ry
      have q2 : decide ((b.size : Int) ≤ -1) = false := decide_eq_false (by omega)
      go_enter Tryd.func5, Tryd.ntmps5
      go_wp2_with fail
      go_at_call 9
      refine HW.out.mono ?_
      rintro e w1 ⟨rfl, hb1⟩
      go_wp2_with fail
      go_at_call 15
      refine (HX.out _).mono ?_
      rintro e w2 ⟨rfl, hb2⟩
      replace hb2 := below_step hb1 hb2
      go_wp2_with fail
      go_at_call 15
      refine (HY.out _).mono ?_
      rintro e w3 ⟨rfl, hb3⟩
      replace hb3 := below_step hb2 hb3
      go_wp2_with fail
      go_at_call 15
      refine (HZ.out _).mono ?_
      rintro e w4 ⟨rfl, hb4⟩
      replace hb4 := below_step hb3 hb4
      go_wp2_with fail
      go_at_call 15
      refine (HM.out _).mono ?_
      rintro e w5 ⟨rfl, hb5⟩
      replace hb5 := below_step hb4 hb5
      clear hb1 hb2 hb3 hb4
      go_wp2
      all_goals first | omega | skip
      go_ret
      exact ⟨rfl, hb5⟩
    · replace ry := ry.resolve_left hy
      obtain ⟨r3, r4⟩ := ry
      generalize fault b = y at *
      have q2 : decide ((b.size : Int) ≤ y) = false := decide_eq_false (by omega)
      have q3 : decide (y < -1) = false := decide_eq_false (by omega)
      clear hy
      go_enter Tryd.func5, Tryd.ntmps5
      go_wp2_with fail
      go_at_call 9
      refine HW.out.mono ?_
      rintro e w1 ⟨rfl, hb1⟩
      go_wp2_with fail
      go_at_call 15
      refine (HX.out _).mono ?_
      rintro e w2 ⟨rfl, hb2⟩
      replace hb2 := below_step hb1 hb2
      go_wp2_with fail
      go_at_call 15
      refine (HY.out _).mono ?_
      rintro e w3 ⟨rfl, hb3⟩
      replace hb3 := below_step hb2 hb3
      go_wp2_with fail
      go_at_call 15
      refine (HZ.out _).mono ?_
      rintro e w4 ⟨rfl, hb4⟩
      replace hb4 := below_step hb3 hb4
      go_wp2_with fail
      go_at_call 15
      refine (HM.out _).mono ?_
      rintro e w5 ⟨rfl, hb5⟩
      replace hb5 := below_step hb4 hb5
      clear hb1 hb2 hb3 hb4
      go_wp2
      all_goals first | omega | skip
      go_ret
      exact ⟨rfl, hb5⟩
theorem laid_met (os : Os) : laidMet Tryd.prog Rows.namesSignsRow.laid ((Tab.laidWorld os).forCall (fun _ _ => 0) ⟨#[], #[.string ByteArray.empty, .string ByteArray.empty], []⟩).memory :=
  laidMet_of_run' 8 (by kernel_rfl) (by kernel_rfl)
theorem reads (os : Os) {H : Type} (enc : TypeId × Value → H) : ∃ places, DataW.whole enc Tryd.prog ((Tab.laidWorld os).forCall (fun _ _ => 0) ⟨#[], #[.string ByteArray.empty, .string ByteArray.empty], []⟩).memory Tryd.f5.params.toList Rows.namesSignsSpec.vars false (#[.string ByteArray.empty, .string ByteArray.empty] : Array Value).toList 8 = some ([.lit (.string []), .lit (.string [])], [], places) :=
  ⟨[], by kernel_rfl⟩
set_option maxRecDepth 100000 in
theorem lifted (os : Os) (started : os.Started) (H : Type) (enc : TypeId × Value → H) (F : Stop.Interp) :
    ReturnsInHanded {} Tryd.checked os 5 .any ((OpenSpec.ofChange Rows.namesSignsSpec).preRow enc Tryd.prog Tryd.f5 Rows.namesSignsRow.domain false Rows.namesSignsRow.laid) (((OpenSpec.ofChange Rows.namesSignsSpec).at F).post enc Tryd.prog Tryd.f5 false true false false) := by
  obtain ⟨places, hx⟩ := reads os enc
  refine returnsInHanded_of_row (C := Tryd.checked) (s := OpenSpec.ofChange Rows.namesSignsSpec) Tab.own started (by kernel_rfl) Tryd.func5
    (witness_row_at (enc := enc) (C := Tryd.checked) false (Tab.laidWorld os) #[.string ByteArray.empty, .string ByteArray.empty] rfl (by kernel_rfl) (by kernel_rfl) (by kernel_rfl)
      (OpenSpec.preRow_of_cond 8 hx (by kernel_rfl) (fun k hk => by cases hk) (by kernel_rfl) (laid_met os))) ?_
  intro W base args ds gs before hval hW _ hcond hzz hL hsh _
  refine Rw.post_law (tb := 4) (s := Rows.namesSignsSpec) Tab.laidOut (by kernel_rfl) rfl Tryd.underlying4 rfl (fun ds hds => ?_) hW ?_
  · rw [Tryd.params5] at hds
    match ds, hds with
    | [d0, d1], _ => rfl
  obtain ⟨p, hA, hz, rfl⟩ := Rw.args_of (s := OpenSpec.ofChange Rows.namesSignsSpec) rfl hW hzz

  have hm := Tab.maxOk hsh
  clear hcond hzz hW hL hsh
  rw [Tryd.params5] at hA hz hval
  obtain ⟨v0, vs0, ds0, p0, xs, hargs, hK0, hG0, hA1, hz1⟩ := Rw.open_arg (Rw.opens_string Tryd.underlying9) hA hz
  obtain ⟨v1, vs1, ds1, p1, ys, rfl, hK1, hG1, hA2, hz2⟩ := Rw.open_arg (Rw.opens_string Tryd.underlying9) hA1 hz1
  obtain rfl := Rw.open_end (args := args) hA2
  obtain rfl : args = #[v0, v1] := by cases args; simp_all
  obtain ⟨s0, rfl⟩ := okWide_string Tryd.underlying9 (hval 0 9 _ rfl rfl)
  obtain rfl : s0 = xs := by have h : [Value.string s0] = [Value.string xs] := hK0; injection h with h; injection h
  obtain ⟨s1, rfl⟩ := okWide_string Tryd.underlying9 (hval 1 9 _ rfl rfl)
  obtain rfl : s1 = ys := by have h : [Value.string s1] = [Value.string ys] := hK1; injection h with h; injection h
  exact law_any _ _ W hG0 hG1 hm
theorem said : Rows.NamesSignsSaid :=
  OpenClaim.holds_of_cond 5 Tryd.f5 rfl rfl rfl rfl rfl rfl rfl ⟨rfl, rfl, rfl, rfl, rfl⟩ rfl rfl rfl rfl rfl (by kernel_rfl) Tryd.func5 (by kernel_rfl)
    (of_decide_eq_true (by kernel_rfl)) (by unfold Func.isWrapper; first | (rw [if_pos (by decide +kernel)]; kernel_rfl) | (rw [if_neg (by decide +kernel)]; exact ⟨rfl, rfl⟩))
    (fun os started H enc _ F => by rw [OpenClaim.pre_eq_preRow]; exact lifted os started H enc F)
theorem plain (f : FuncId) (fn : Func) (hf : Tryd.pinned.checked.prog.funcNamed "torrent/torrentlaw5.NamesSigns" = some f) (hfn : Tryd.pinned.checked.prog.funcs[f]? = some fn) :
    false = Tryd.pinned.checked.prog.looks [] ∧ ∀ (j : Nat) t, fn.params[j]? = some t → Tryd.pinned.checked.prog.wantsStandIn t = false := by
  obtain rfl : f = 5 := Option.some.inj ((show Tryd.prog.funcNamed "torrent/torrentlaw5.NamesSigns" = some 5 by kernel_rfl).symm.trans hf) |>.symm
  obtain rfl : fn = Tryd.f5 := (Option.some.inj (Tryd.func5.symm.trans hfn)).symm
  refine ⟨by kernel_rfl, fun j t ht => ?_⟩
  have hall : Tryd.f5.params.toList.all (fun t => !Tryd.pinned.checked.prog.wantsStandIn t) = true := by kernel_rfl
  have := List.all_eq_true.1 hall t (by simpa using Array.mem_of_getElem? ht)
  simpa using this
/-- The statement. -/
theorem proved : Rows.NamesSignsCardSaid :=
  Claim7.holds_tied_plain_at .later [] _ _ _ _ said (fun _ h => by cases h) (by kernel_rfl) (fun _ h => by cases h) namesSigns_row_tie rfl ⟨rfl, rfl⟩ (by kernel_rfl) rfl plain (by kernel_rfl)
#print axioms proved
end Go.Proofs.YtgbeppbdebibiaaDoor.LawNamesSigns
