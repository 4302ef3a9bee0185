/- torrentlaw5.NamesThereAndBack, of arguments within the bound: what Join makes Split gives back, and the other way. Its card is tied. -/
import Derived.Test.YtgbeppbdebibiaaDoorCards
import Derived.Test.YtgbeppbdebibiaaDoorTie
import Derived.Test.YtgbeppbdebibiaaDoorTab
import Derived.Test.YtgbeppbdebibiaaDoorRowU
import Derived.Test.YtgbeppbdebibiaaDoorAw
import Derived.Test.YtgbeppbdebibiaaDoorPs
import Derived.Shelf.Vars
set_option linter.unusedVariables false
set_option linter.unusedSimpArgs false
namespace Go.Proofs.YtgbeppbdebibiaaDoor.LawNamesThereAndBack
open Go.ChangeShapes Go.WideShapes Go.ChangeAt Go.RowKit Go.Proofs.YtgbeppbdebibiaaDoorW.PrintWords
open Go.Proofs.YtgbeppbdebibiaaDoor.Wd Go.Proofs.YtgbeppbdebibiaaDoor.Nm
set_option maxRecDepth 100000 in
theorem law_any (A0 : Option Addr) (c0 : Nat) (xs : List ByteArray) (s : ByteArray) (w : World) (hr0 : Kd.string.C w A0 xs.length xs) (hc0 : xs.length ≤ c0) (hl0 : xs.length ≤ 1048576) (hs0 : ∀ x ∈ xs, x.size ≤ 1048576) (hs : s.size ≤ 1048576) (hm : MaxOk w) :
    Calls Tryd.prog 3 #[.slice A0 xs.length c0, .string s] w fun e w' => e = .returned (.bool true) ∧ Below w.heap.size w w' := by
  have HR0 := Aside0.mk hr0
  have HM := Lib.hid hm
  have HJ : Hid (∀ w, Kd.string.C w A0 xs.length xs → Calls Tryd.prog 10 #[.slice A0 xs.length c0] w fun e w' => e = .returned (JoinV xs) ∧ Below w.heap.size w w') := Lib.hid fun w h => join_any A0 c0 xs w h hc0
  have HS2 : Hid (∀ w, MaxOk w → Calls Tryd.prog 12 #[.string s] w (SplitR s w)) := Lib.hid fun w h => split_any s w (by omega) h
  have HJ2 : Hid (path (splitS s) = 0 → Hid (∀ A c (w : World), Kd.string.C w A (splitL s).length (splitL s) → (splitL s).length ≤ c → Calls Tryd.prog 10 #[.slice A (splitL s).length c] w fun e w' => e = .returned (.tuple #[.string s, .int .i64 0]) ∧ Below w.heap.size w w')) := Lib.hid fun h0 => Lib.hid fun A c w h h2 => by
    have e1 : splitL s = splitS s := if_pos h0
    have e2 : JoinV (splitL s) = .tuple #[.string s, .int .i64 0] := by unfold JoinV; rw [e1, if_pos h0, joinS_split]
    rw [← e2]; exact join_any A c _ w h h2
  have HX : Hid (∀ A c (w : World), Kd.string.C w A0 xs.length xs → Kd.string.C w A xs.length xs → Calls Tryd.prog 13 #[.slice A0 xs.length c0, .slice A xs.length c] w fun e w' => e = .returned (.bool true) ∧ Below w.heap.size w w') := Lib.hid fun A c w h1 h2 => by
    rw [← sameB_refl xs]; exact same_any A0 c0 xs A c xs w h1 h2 (by omega)
  have HW := Lib.hid (awake_any w hm)
  unfold SplitR at HS2
  by_cases hp : path xs = 0
  · have HS1 : Hid (∀ w, MaxOk w → Calls Tryd.prog 12 #[.string (joinS xs)] w fun e w' => ∃ A c, e = .returned (.tuple #[.slice A xs.length c, .int .i64 0]) ∧ xs.length ≤ c ∧ Kd.string.C w' A xs.length xs ∧ Below w.heap.size w w') := Lib.hid fun w h => by
      have := split_any (joinS xs) w (by have := joinS_size hp; omega) h
      unfold SplitR splitL at this
      rw [splitS_join hp, if_pos hp, hp] at this
      exact this
    have hj : JoinV xs = .tuple #[.string (joinS xs), .int .i64 0] := if_pos hp
    rw [hj] at HJ
    clear hj hp hr0 hc0 hl0 hs0 hs hm
    generalize joinS xs = t at *
    generalize path (splitS s) = n at *
    generalize splitL s = ys at *
    go_enter Tryd.func3, Tryd.ntmps3
    go_wp2_with fail
    go_at_call 9
    refine HW.out.mono ?_
    rintro e w1 ⟨rfl, hb1⟩
    go_wp2_with fail
    go_at_call 10
    refine (HJ.out _ (Kd.C_below HR0.out hb1)).mono ?_
    rintro e w2 ⟨rfl, hb2⟩
    replace hb2 := below_step hb1 hb2
    clear hb1
    go_wp2_with fail
    go_at_call 11
    refine (num_any _ _).mono ?_
    rintro e w3 ⟨rfl, rfl⟩
    go_wp2_with fail
    go_at_call 12
    refine (HS1.out _ (HM.out.below hb2)).mono ?_
    rintro e w3 ⟨A, c, rfl, hc, hr, hb3⟩
    have HR := Aside0.mk hr
    clear hr
    replace hb3 := below_step hb2 hb3
    clear hb2
    go_wp2_with fail
    go_at_call 11
    refine (num_any _ _).mono ?_
    rintro e w4 ⟨rfl, rfl⟩
    go_wp2_with fail
    go_at_call 13
    refine (HX.out _ _ _ (Kd.C_below HR0.out hb3) HR.out).mono ?_
    rintro e w4 ⟨rfl, hb4⟩
    have hbT := below_step hb3 hb4
    clear hb3 hb4
    go_wp2_with fail
    go_at_call 12
    refine (HS2.out _ (HM.out.below hbT)).mono ?_
    rintro e w5 ⟨A5, c5, rfl, hc5, hr5, hb5⟩
    have HR5 := Aside0.mk hr5
    have HC5 := Aside0.mk hc5
    clear hr5 hc5
    have hbU := below_step hbT hb5
    clear hb5 hbT
    by_cases hq : n = 0
    · have HJ3 := HJ2.out hq
      have hq2 : (n == 0) = true := by simp [hq]
      have hyy : (s.toList != s.toList) = false := by simp
      clear hq
      go_wp2_with (first | (go_at_call 11; refine (num_any _ _).mono ?_; rintro e w4 ⟨rfl, rfl⟩) | (go_at_call 10; refine (HJ3.out _ _ _ HR5.out HC5.out).mono ?_; rintro e w6 ⟨rfl, hb6⟩))
      go_ret
      exact ⟨rfl, below_step hbU hb6⟩
    · have hq2 : (n == 0) = false := by simp [hq]
      clear hq
      go_wp2_with (go_at_call 11; refine (num_any _ _).mono ?_; rintro e w4 ⟨rfl, rfl⟩)
      go_ret
      exact ⟨rfl, hbU⟩
  · have hj : JoinV xs = .tuple #[.string ⟨#[]⟩, .int .i64 (path xs)] := if_neg hp
    rw [hj] at HJ
    have hp2 : (path xs == 0) = false := by simp [hp]
    clear hj hp hr0 hc0 hl0 hs0 hs hm HX
    generalize path xs = m at *
    generalize path (splitS s) = n at *
    generalize splitL s = ys at *
    go_enter Tryd.func3, Tryd.ntmps3
    go_wp2_with fail
    go_at_call 9
    refine HW.out.mono ?_
    rintro e w1 ⟨rfl, hb1⟩
    go_wp2_with fail
    go_at_call 10
    refine (HJ.out _ (Kd.C_below HR0.out hb1)).mono ?_
    rintro e w2 ⟨rfl, hb2⟩
    have hbT := below_step hb1 hb2
    clear hb1 hb2
    go_wp2_with fail
    go_at_call 11
    refine (num_any _ _).mono ?_
    rintro e w3 ⟨rfl, rfl⟩
    go_wp2_with fail
    go_at_call 12
    refine (HS2.out _ (HM.out.below hbT)).mono ?_
    rintro e w5 ⟨A5, c5, rfl, hc5, hr5, hb5⟩
    have HR5 := Aside0.mk hr5
    have HC5 := Aside0.mk hc5
    clear hr5 hc5
    have hbU := below_step hbT hb5
    clear hb5 hbT
    by_cases hq : n = 0
    · have HJ3 := HJ2.out hq
      have hq2 : (n == 0) = true := by simp [hq]
      have hyy : (s.toList != s.toList) = false := by simp
      clear hq
      go_wp2_with (first | (go_at_call 11; refine (num_any _ _).mono ?_; rintro e w4 ⟨rfl, rfl⟩) | (go_at_call 10; refine (HJ3.out _ _ _ HR5.out HC5.out).mono ?_; rintro e w6 ⟨rfl, hb6⟩))
      go_ret
      exact ⟨rfl, below_step hbU hb6⟩
    · have hq2 : (n == 0) = false := by simp [hq]
      clear hq
      go_wp2_with (go_at_call 11; refine (num_any _ _).mono ?_; rintro e w4 ⟨rfl, rfl⟩)
      go_ret
      exact ⟨rfl, hbU⟩
theorem laid_met (os : Os) : laidMet Tryd.prog Rows.namesThereAndBackUptoRow.laid ((Tab.laidWorld os).forCall (fun _ _ => 0) ⟨#[], #[.slice none 0 0, .string ByteArray.empty], []⟩).memory :=
  laidMet_of_run' 8 (by kernel_rfl) (by kernel_rfl)
theorem reads (os : Os) {H : Type} (enc : TypeId × Value → H) : ∃ places, DataW.whole enc Tryd.prog ((Tab.laidWorld os).forCall (fun _ _ => 0) ⟨#[], #[.slice none 0 0, .string ByteArray.empty], []⟩).memory Tryd.f3.params.toList Rows.namesThereAndBackSpec.vars false (#[.slice none 0 0, .string ByteArray.empty] : Array Value).toList 8 = some ([.nil, .lit (.string [])], [], places) :=
  ⟨[], by kernel_rfl⟩
set_option maxRecDepth 100000 in
theorem lifted (os : Os) (started : os.Started) (H : Type) (enc : TypeId × Value → H) (F : Stop.Interp) :
    ReturnsInHanded {} Tryd.checked os 3 .any ((Rows.OpenSpec.upto Rows.namesThereAndBackSpec).preRow enc Tryd.prog Tryd.f3 Rows.namesThereAndBackUptoRow.domain false Rows.namesThereAndBackUptoRow.laid) (((Rows.OpenSpec.upto Rows.namesThereAndBackSpec).at F).post enc Tryd.prog Tryd.f3 false true false false) := by
  obtain ⟨places, hx⟩ := reads os enc
  refine returnsInHanded_of_row (C := Tryd.checked) (s := Rows.OpenSpec.upto Rows.namesThereAndBackSpec) Tab.own started (by kernel_rfl) Tryd.func3
    (witness_row_at (enc := enc) (C := Tryd.checked) false (Tab.laidWorld os) #[.slice none 0 0, .string ByteArray.empty] rfl (by kernel_rfl) (by kernel_rfl) (by kernel_rfl)
      (OpenSpec.preRow_of_cond 8 hx (by kernel_rfl) (fun k hk => by cases hk; kernel_rfl) (by kernel_rfl) (laid_met os))) ?_
  intro W base args ds gs before hval hW _ hcond hzz hL hsh _
  refine Rw.post_law (tb := 4) (s := Rows.namesThereAndBackSpec) Tab.laidOut (by kernel_rfl) rfl Tryd.underlying4 rfl (fun ds hds => ?_) hW ?_
  · rw [Tryd.params3] at hds
    match ds, hds with
    | [d0, d1], _ => rfl
  obtain ⟨p, hA, hz, rfl⟩ := Rw.args_of (s := Rows.OpenSpec.upto Rows.namesThereAndBackSpec) rfl hW hzz
  have hB := Rw.bulk_le (hcond _ rfl)
  have hm := Tab.maxOk hsh
  clear hcond hzz hW hL hsh
  rw [Tryd.params3] at hA hz hval
  obtain ⟨v0, vs0, ds0, p0, xs, hargs, ⟨A0, c0, hK0, hc0, hr0⟩, ⟨hl0, hs0⟩, hA1, hB1⟩ := Rw.open_argB (Rw.opensB_slice Tryd.underlying22 (by kernel_rfl) (Rw.opensB_string Tryd.underlying9)) hA hB
  obtain ⟨v1, vs1, ds1, p1, ys, rfl, hK1, hG1, hA2, hB2⟩ := Rw.open_argB (Rw.opensB_string Tryd.underlying9) hA1 hB1
  obtain rfl := Rw.open_end (args := args) hA2
  obtain rfl : args = #[v0, v1] := by cases args; simp_all
  obtain ⟨a0, n0, d0, rfl⟩ := okWide_slice Tryd.underlying22 (hval 0 22 _ rfl rfl)
  have e0 : [Value.slice a0 n0 d0] = [Value.slice A0 xs.length c0] := hK0
  injection e0 with e0
  injection e0 with e0a e0b e0c
  subst e0a e0b e0c
  obtain ⟨s1, rfl⟩ := okWide_string Tryd.underlying9 (hval 1 9 _ rfl rfl)
  obtain rfl : s1 = ys := by have h : [Value.string s1] = [Value.string ys] := hK1; injection h with h; injection h
  exact law_any _ _ _ _ W hr0 hc0 hl0 hs0 hG1 hm
theorem said : Rows.NamesThereAndBackUptoSaid :=
  OpenClaim.holds_of_cond 3 Tryd.f3 rfl rfl rfl rfl rfl rfl rfl ⟨rfl, rfl, rfl, rfl, rfl⟩ rfl rfl rfl rfl rfl (by kernel_rfl) Tryd.func3 (by kernel_rfl)
    (of_decide_eq_true (by kernel_rfl)) (by unfold Func.isWrapper; first | (rw [if_pos (by decide +kernel)]; kernel_rfl) | (rw [if_neg (by decide +kernel)]; exact ⟨rfl, rfl⟩))
    (fun os started H enc _ F => by rw [OpenClaim.pre_eq_preRow]; exact lifted os started H enc F)
theorem plain (f : FuncId) (fn : Func) (hf : Tryd.pinned.checked.prog.funcNamed "torrent/torrentlaw5.NamesThereAndBack" = some f) (hfn : Tryd.pinned.checked.prog.funcs[f]? = some fn) :
    false = Tryd.pinned.checked.prog.looks [] ∧ ∀ (j : Nat) t, fn.params[j]? = some t → Tryd.pinned.checked.prog.wantsStandIn t = false := by
  obtain rfl : f = 3 := Option.some.inj ((show Tryd.prog.funcNamed "torrent/torrentlaw5.NamesThereAndBack" = some 3 by kernel_rfl).symm.trans hf) |>.symm
  obtain rfl : fn = Tryd.f3 := (Option.some.inj (Tryd.func3.symm.trans hfn)).symm
  refine ⟨by kernel_rfl, fun j t ht => ?_⟩
  have hall : Tryd.f3.params.toList.all (fun t => !Tryd.pinned.checked.prog.wantsStandIn t) = true := by kernel_rfl
  have := List.all_eq_true.1 hall t (by simpa using Array.mem_of_getElem? ht)
  simpa using this
/-- The statement. -/
theorem proved : Rows.NamesThereAndBackUptoCardSaid :=
  Claim7.holds_tied_plain_at .later [] _ _ _ _ said (fun _ h => by cases h) (by kernel_rfl) (fun _ h => by cases h) namesThereAndBackUpto_row_tie rfl ⟨rfl, rfl⟩ (by kernel_rfl) rfl plain (by kernel_rfl)
#print axioms proved
end Go.Proofs.YtgbeppbdebibiaaDoor.LawNamesThereAndBack
