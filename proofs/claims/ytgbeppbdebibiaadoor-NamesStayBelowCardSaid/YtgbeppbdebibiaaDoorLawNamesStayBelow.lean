/- torrentlaw5.NamesStayBelow: each part of a joined path goes down by one. No condition beyond the form's own. Its card is tied. -/
import Derived.Test.YtgbeppbdebibiaaDoorCards
import Derived.Test.YtgbeppbdebibiaaDoorTie
import Derived.Test.YtgbeppbdebibiaaDoorTab
import Derived.Test.YtgbeppbdebibiaaDoorRowU
import Derived.Test.YtgbeppbdebibiaaDoorAw
import Derived.Test.YtgbeppbdebibiaaDoorPs
import Derived.Test.YtgbeppbdebibiaaDoorPu
import Derived.Shelf.Vars
set_option linter.unusedVariables false
set_option linter.unusedSimpArgs false
namespace Go.Proofs.YtgbeppbdebibiaaDoor.LawNamesStayBelow
open Go.ChangeShapes Go.WideShapes Go.ChangeAt Go.RowKit Go.Proofs.YtgbeppbdebibiaaDoorW.PrintWords
open Go.Proofs.YtgbeppbdebibiaaDoor.Wd Go.Proofs.YtgbeppbdebibiaaDoor.Nm
set_option maxRecDepth 100000 in
theorem harmless_any (s : ByteArray) (hc : comp s = 0) (w : World) : Calls Tryd.prog 14 #[.string s] w fun e w' => e = .returned (.bool true) ∧ Below w.heap.size w w' := by
  have hby := Lib.hid (fun k hk => comp_bytes hc k hk)
  have hz := comp_size hc
  have hb : s.toList.isEmpty = false ∧ dotB s = false := by
    unfold comp at hc
    repeat' split at hc
    all_goals first | omega | (constructor <;> simp_all)
  obtain ⟨h1, h2⟩ := hb
  unfold dotB at h2
  rw [Bool.or_eq_false_iff] at h2
  obtain ⟨h2, h3⟩ := h2
  have h4 : decide ((255 : Int) < (s.size : Int)) = false := decide_eq_false (by omega)
  clear hc
  go_enter Tryd.func14, Tryd.ntmps14
  go_wp2
  go_loopw [3] (fun i wr => ∃ k : Nat, k ≤ s.size ∧ i = .int .i64 k ∧ Aside0 (Below w.heap.size w wr)) (fun i _ => s.size - (intOf i).toNat)
  case atStart => exact ⟨0, by omega, rfl, ⟨Below.refl _ _⟩⟩
  case round =>
    obtain ⟨k, hk, rfl, HB⟩ := hrel
    by_cases hlt : k < s.size
    · have hb1 := byt_eq s k hlt
      have hb2 := hby.out k hlt
      have hb3 : ¬ (byt s k < 32 ∨ byt s k = 127 ∨ byt s k = 47 ∨ byt s k = 92) := fun e => by rw [(barB_iff _).2 e] at hb2; cases hb2
      have q1 : decide (byt s k < 32) = false := decide_eq_false (by omega)
      have q2 : (byt s k == 127) = false := by rw [beq_eq_false_iff_ne]; omega
      have q3 : (byt s k == 92) = false := by rw [beq_eq_false_iff_ne]; omega
      clear hb2 hb3
      go_wp2
      go_roundw
      case rel => exact ⟨k + 1, by omega, by go_num, HB⟩
      case measure => simp [intOf]; omega
    · go_wp2
      go_ret
      exact ⟨rfl, HB.out⟩
theorem comp_fault {x : ByteArray} (h : comp x = 0) : fault x = -1 := by
  have hr := fault_range x
  unfold comp at h
  unfold fault at *
  repeat' split at h
  all_goals omega
theorem joinS_fault : ∀ xs : List ByteArray, (∀ x ∈ xs, comp x = 0) → fault (joinS xs) = -1
  | [], _ => by kernel_rfl
  | [x], h => by
    have e : joinS [x] = x := ext_list (by show Lib.join [x.data.toList] slash = _; rw [Lib.join_one])
    rw [e]
    exact comp_fault (h x (by simp))
  | x :: y :: r, h => by
    have e : joinS (x :: y :: r) = (x ++ (⟨#[47]⟩ : ByteArray)) ++ joinS (y :: r) := ext_list (by
      show Lib.join (x.data.toList :: y.data.toList :: r.map (·.data.toList)) slash = _
      simp [Lib.join, List.intercalate, slash, joinS, ByteArray.data_append])
    have hx : fault (x ++ (⟨#[47]⟩ : ByteArray)) = -1 := by rw [fault_app _ (comp_fault (h x (by simp))), fault_sl]; rfl
    rw [e, fault_app _ hx, joinS_fault (y :: r) (fun z hz => h z (by simp [List.mem_cons.1 hz]))]
    rfl
set_option maxRecDepth 100000 in
theorem law_any (A0 : Option Addr) (c0 : Nat) (xs : List ByteArray) (w : World) (hr0 : Kd.string.C w A0 xs.length xs) (hc0 : xs.length ≤ c0) (hl0 : xs.length ≤ 8796093022207) (hs0 : Nm.Short xs) (hm : MaxOk w) :
    Calls Tryd.prog 4 #[.slice A0 xs.length c0] w fun e w' => e = .returned (.bool true) ∧ Below w.heap.size w w' := by
  have HR0 := Aside0.mk hr0
  have HW := Lib.hid (awake_any w hm)
  have HJ : Hid (∀ w, Kd.string.C w A0 xs.length xs → Calls Tryd.prog 10 #[.slice A0 xs.length c0] w fun e w' => e = .returned (JoinV xs) ∧ Below w.heap.size w w') := Lib.hid fun w h => join_any A0 c0 xs w h hc0
  by_cases hp : path xs = 0
  · have hj : JoinV xs = .tuple #[.string (joinS xs), .int .i64 0] := if_pos hp
    obtain ⟨hn1, hn2, hn3⟩ := path_zero hp
    have hz := joinS_size hp
    have HS : Hid ([] ++ cutFrom (joinS xs) ((joinS xs).size + 1 - 0) 0 0 = xs) := Lib.hid (splitS_join hp)
    have HH : Hid (∀ t ∈ xs, ∀ w, Calls Tryd.prog 14 #[.string t] w fun e w' => e = .returned (.bool true) ∧ Below w.heap.size w w') := Lib.hid fun t ht w => harmless_any t (hn3 t ht) w
    have HU : Hid (∀ w, Calls Tryd.prog 15 #[.string (joinS xs)] w fun e w' => e = .returned (.int .i64 (-1)) ∧ Below w.heap.size w w') := Lib.hid fun w => by rw [← joinS_fault xs hn3]; exact utf8_any _ w
    rw [hj] at HJ
    clear hj hp hn3 hs0 hr0 hc0 hm
    generalize joinS xs = s at *
    go_enter Tryd.func4, Tryd.ntmps4
    go_wp2_with fail
    go_at_call 9
    refine HW.out.mono ?_
    rintro e w1 ⟨rfl, hb1⟩
    go_wp2_with fail
    go_at_call 10
    refine (HJ.out _ (Kd.C_below HR0.out hb1)).mono ?_
    rintro e w2 ⟨rfl, hb2⟩
    have HB := Aside0.mk (below_step hb1 hb2)
    clear hb1 hb2
    go_wp2_with (go_at_call 11; refine (num_any _ _).mono ?_; rintro e w3 ⟨rfl, rfl⟩)
    obtain ⟨wo, rfl⟩ : ∃ wo : World, wo = w2 := ⟨_, rfl⟩
    go_loopw [6, 7, 8, 9, 10] (fun d f i _ _ wr => ∃ (D : List ByteArray) (a k : Nat), a ≤ k ∧ k ≤ s.size + 1 ∧ d = .int .i64 D.length ∧ f = .int .i64 a ∧ i = .int .i64 k ∧ Hid (D ++ cutFrom s (s.size + 1 - k) a k = xs) ∧ Aside0 (Below w.heap.size w wr)) (fun _ _ i _ _ _ => s.size + 1 - (intOf i).toNat)
    case atStart => exact ⟨[], 0, 0, by omega, by omega, rfl, rfl, rfl, HS, HB⟩
    case round =>
      obtain ⟨D, a, k, ha, hk, rfl, rfl, rfl, HC, HB1⟩ := hrel
      have hDl : D.length ≤ xs.length := by rw [← HC.out]; simp
      by_cases hle : k ≤ s.size
      · by_cases hcut : k = s.size ∨ byt s k = 47
        · have HC1 := Lib.hid (cut_add s k a D xs hle HC.out hcut)
          have hmem : s.extract a k ∈ xs := by rw [← HC1.out]; simp
          have HQ := Lib.hid (HH.out _ hmem)
          have hl : ((D.length : Int) + 1) = ((D ++ [s.extract a k]).length : Nat) := by simp
          have HL := Lib.hid hl
          clear hmem hl
          by_cases he : k = s.size
          · have q0 : ¬ k < s.size := by omega
            have q1 : decide ((k : Int) < (s.size : Int)) = false := decide_eq_false (by omega)
            have q2 : decide (k < s.size) = false := decide_eq_false q0
            clear he hcut
            go_wp2_with (go_at_call 14; refine (HQ.out _).mono ?_; rintro e w4 ⟨rfl, hb4⟩)
            all_goals first | omega | skip
            go_roundw
            case rel => exact ⟨_, k + 1, k + 1, by omega, by omega, by rw [← HL.out], by go_num, by go_num, HC1, ⟨below_step HB1.out hb4⟩⟩
            case measure => simp [intOf]; omega
          · have hlt : k < s.size := by omega
            have h47 := hcut.resolve_left he
            have q1 : decide ((k : Int) < (s.size : Int)) = true := decide_eq_true (by omega)
            have hby := byt_eq s k hlt
            have q2 : (byt s k != 47) = false := by simp [h47]
            have q3 : (byt s k == 47) = true := by simp [h47]
            clear he hcut h47
            go_wp2_with (go_at_call 14; refine (HQ.out _).mono ?_; rintro e w4 ⟨rfl, hb4⟩)
            all_goals first | omega | skip
            go_roundw
            case rel => exact ⟨_, k + 1, k + 1, by omega, by omega, by rw [← HL.out], by go_num, by go_num, HC1, ⟨below_step HB1.out hb4⟩⟩
            case measure => simp [intOf]; omega
        · have hlt : k < s.size := by omega
          have HC1 := Lib.hid (cut_pass s k a D xs hlt HC.out (fun e => hcut (.inr e)))
          have q1 : decide ((k : Int) < (s.size : Int)) = true := decide_eq_true (by omega)
          have hby := byt_eq s k hlt
          have q2 : (byt s k != 47) = true := by simp; exact fun e => hcut (.inr e)
          have q3 : (byt s k == 47) = false := by simp; exact fun e => hcut (.inr e)
          clear hcut
          go_wp2_with fail
          all_goals first | omega | skip
          go_roundw
          case rel => exact ⟨D, a, k + 1, by omega, by omega, rfl, rfl, by go_num, HC1, HB1⟩
          case measure => simp [intOf]; omega
      · have hx : D = xs := by have := HC.out; rwa [cutFrom_end _ _ _ _ (by omega), List.append_nil] at this
        subst hx
        have t1 : ((D.length : Int) == (D.length : Int)) = true := by simp
        have t2 : decide ((1 : Int) ≤ (D.length : Int)) = true := decide_eq_true (by omega)
        have t3 : decide ((D.length : Int) ≤ 16) = true := decide_eq_true (by omega)
        go_wp2_with (go_at_call 15; refine (HU.out _).mono ?_; rintro e w5 ⟨rfl, hb5⟩)
        go_ret
        exact ⟨rfl, below_step HB1.out hb5⟩
  · have hj : JoinV xs = .tuple #[.string ⟨#[]⟩, .int .i64 (path xs)] := if_neg hp
    rw [hj] at HJ
    have hp2 : (path xs != 0) = true := by simp [hp]
    clear hj hp hr0 hc0 hl0 hs0 hm
    generalize path xs = m at *
    go_enter Tryd.func4, Tryd.ntmps4
    go_wp2_with fail
    go_at_call 9
    refine HW.out.mono ?_
    rintro e w1 ⟨rfl, hb1⟩
    go_wp2_with fail
    go_at_call 10
    refine (HJ.out _ (Kd.C_below HR0.out hb1)).mono ?_
    rintro e w2 ⟨rfl, hb2⟩
    have HB := Aside0.mk (below_step hb1 hb2)
    clear hb1 hb2
    go_wp2_with (go_at_call 11; refine (num_any _ _).mono ?_; rintro e w3 ⟨rfl, rfl⟩)
    go_ret
    exact ⟨rfl, HB.out⟩
theorem laid_met (os : Os) : laidMet Tryd.prog Rows.namesStayBelowRow.laid ((Tab.laidWorld os).forCall (fun _ _ => 0) ⟨#[], #[.slice none 0 0], []⟩).memory :=
  laidMet_of_run' 8 (by kernel_rfl) (by kernel_rfl)
theorem reads (os : Os) {H : Type} (enc : TypeId × Value → H) : ∃ places, DataW.whole enc Tryd.prog ((Tab.laidWorld os).forCall (fun _ _ => 0) ⟨#[], #[.slice none 0 0], []⟩).memory Tryd.f4.params.toList Rows.namesStayBelowSpec.vars false (#[.slice none 0 0] : Array Value).toList 8 = some ([.nil], [], places) :=
  ⟨[], by kernel_rfl⟩
set_option maxRecDepth 100000 in
theorem lifted (os : Os) (started : os.Started) (H : Type) (enc : TypeId × Value → H) (F : Stop.Interp) :
    ReturnsInHanded {} Tryd.checked os 4 .any ((OpenSpec.ofChange Rows.namesStayBelowSpec).preRow enc Tryd.prog Tryd.f4 Rows.namesStayBelowRow.domain false Rows.namesStayBelowRow.laid) (((OpenSpec.ofChange Rows.namesStayBelowSpec).at F).post enc Tryd.prog Tryd.f4 false true false false) := by
  obtain ⟨places, hx⟩ := reads os enc
  refine returnsInHanded_of_row (C := Tryd.checked) (s := OpenSpec.ofChange Rows.namesStayBelowSpec) Tab.own started (by kernel_rfl) Tryd.func4
    (witness_row_at (enc := enc) (C := Tryd.checked) false (Tab.laidWorld os) #[.slice none 0 0] rfl (by kernel_rfl) (by kernel_rfl) (by kernel_rfl)
      (OpenSpec.preRow_of_cond 8 hx (by kernel_rfl) (fun k hk => by cases hk) (by kernel_rfl) (laid_met os))) ?_
  intro W base args ds gs before hval hW _ hcond hzz hL hsh _
  refine Rw.post_law (tb := 4) (s := Rows.namesStayBelowSpec) Tab.laidOut (by kernel_rfl) rfl Tryd.underlying4 rfl (fun ds hds => ?_) hW ?_
  · rw [Tryd.params4] at hds
    match ds, hds with
    | [d0], _ => rfl
  obtain ⟨p, hA, hz, rfl⟩ := Rw.args_of (s := OpenSpec.ofChange Rows.namesStayBelowSpec) rfl hW hzz

  have hm := Tab.maxOk hsh
  clear hcond hzz hW hL hsh
  rw [Tryd.params4] at hA hz hval
  obtain ⟨v0, vs0, ds0, p0, xs, hargs, ⟨A0, c0, hK0, hc0, hr0⟩, ⟨hl0, hs0⟩, hA1, hz1⟩ := Rw.open_arg (Rw.opens_slice Tryd.underlying22 (by kernel_rfl) (Rw.opens_string Tryd.underlying9)) hA hz
  obtain rfl := Rw.open_end (args := args) hA1
  obtain rfl : args = #[v0] := by cases args; simp_all
  obtain ⟨a0, n0, d0, rfl⟩ := okWide_slice Tryd.underlying22 (hval 0 22 _ rfl rfl)
  have e0 : [Value.slice a0 n0 d0] = [Value.slice A0 xs.length c0] := hK0
  injection e0 with e0
  injection e0 with e0a e0b e0c
  subst e0a e0b e0c
  have hb0 : Tryd.prog.bytesOf 9 = 16 := by kernel_rfl
  have hq0 : xs.length ≤ 8796093022207 := by rw [hb0] at hl0; unfold reachBytes at hl0; omega
  exact law_any _ _ _ W hr0 hc0 hq0 hs0 hm
theorem said : Rows.NamesStayBelowSaid :=
  OpenClaim.holds_of_cond 4 Tryd.f4 rfl rfl rfl rfl rfl rfl rfl ⟨rfl, rfl, rfl, rfl, rfl⟩ rfl rfl rfl rfl rfl (by kernel_rfl) Tryd.func4 (by kernel_rfl)
    (of_decide_eq_true (by kernel_rfl)) (by unfold Func.isWrapper; first | (rw [if_pos (by decide +kernel)]; kernel_rfl) | (rw [if_neg (by decide +kernel)]; exact ⟨rfl, rfl⟩))
    (fun os started H enc _ F => by rw [OpenClaim.pre_eq_preRow]; exact lifted os started H enc F)
theorem plain (f : FuncId) (fn : Func) (hf : Tryd.pinned.checked.prog.funcNamed "torrent/torrentlaw5.NamesStayBelow" = some f) (hfn : Tryd.pinned.checked.prog.funcs[f]? = some fn) :
    false = Tryd.pinned.checked.prog.looks [] ∧ ∀ (j : Nat) t, fn.params[j]? = some t → Tryd.pinned.checked.prog.wantsStandIn t = false := by
  obtain rfl : f = 4 := Option.some.inj ((show Tryd.prog.funcNamed "torrent/torrentlaw5.NamesStayBelow" = some 4 by kernel_rfl).symm.trans hf) |>.symm
  obtain rfl : fn = Tryd.f4 := (Option.some.inj (Tryd.func4.symm.trans hfn)).symm
  refine ⟨by kernel_rfl, fun j t ht => ?_⟩
  have hall : Tryd.f4.params.toList.all (fun t => !Tryd.pinned.checked.prog.wantsStandIn t) = true := by kernel_rfl
  have := List.all_eq_true.1 hall t (by simpa using Array.mem_of_getElem? ht)
  simpa using this
/-- The statement. -/
theorem proved : Rows.NamesStayBelowCardSaid :=
  Claim7.holds_tied_plain_at .later [] _ _ _ _ said (fun _ h => by cases h) (by kernel_rfl) (fun _ h => by cases h) namesStayBelow_row_tie rfl ⟨rfl, rfl⟩ (by kernel_rfl) rfl plain (by kernel_rfl)
#print axioms proved
end Go.Proofs.YtgbeppbdebibiaaDoor.LawNamesStayBelow
