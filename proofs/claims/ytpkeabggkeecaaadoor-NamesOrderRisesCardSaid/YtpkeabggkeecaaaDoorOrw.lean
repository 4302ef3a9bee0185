/- The walk of torrentlaw5.NamesOrderRises. -/
import Derived.Test.YtpkeabggkeecaaaDoorAw
import Derived.Test.YtpkeabggkeecaaaDoorPr
set_option linter.unusedVariables false
set_option linter.unusedSimpArgs false
namespace Go.Proofs.YtpkeabggkeecaaaDoor.LawNamesOrderRises
open Go.RowKit Go.Proofs.YtpkeabggkeecaaaDoorW.PrintWords
open Go.Proofs.YtpkeabggkeecaaaDoor.Wd Go.Proofs.YtpkeabggkeecaaaDoor.Nm
set_option maxHeartbeats 2000000 in
set_option maxRecDepth 100000 in
theorem law_bad (A0 : Option Addr) (c0 : Nat) (P : List (List ByteArray)) (w : World) (hr : KL.C w A0 P.length P) (hl : P.length ≤ 5864062014804) (hs : Lens P) (hz : Shorts P) (hm : MaxOk w) (hbad : ¬ ordE P = 0) :
    Calls Tryd.prog 8 #[.slice A0 P.length c0] w fun e w' => e = .returned (.bool true) ∧ Below w.heap.size w w' := by
  have HW := Lib.hid (awake_any w hm)
  have HR := Aside0.mk hr
  have HS := Lib.hid hs
  have HCL : Hid (∀ w, KL.C w A0 P.length P → Calls Tryd.prog 18 #[.slice A0 P.length c0] w fun e w' => e = .returned (ClashV P) ∧ Below w.heap.size w w') := Lib.hid fun w h => clash_any A0 c0 P w h hl hs hz
  have HOR : Hid (∀ w, KL.C w A0 P.length P → Calls Tryd.prog 19 #[.slice A0 P.length c0] w (OrdR P w)) := Lib.hid fun w h => order_any A0 c0 P w h hl hs hz
  have hce : clashE P = (clashFrom P P.length 0).2.2 := rfl
  unfold ClashV at HCL
  rw [← hce] at HCL
  clear hr hs hz hm hce
  have HE : Hid (goodB P P.length = false) := Lib.hid (by rw [good_end]; exact decide_eq_false hbad)
  have hl0 : ordL P = [] := if_neg hbad
  have Hl0 := Lib.hid hl0
  clear hl0
  have N1 : (ordE P == 0) = false := by simp [hbad]
  have N2 : (ordE P != 0) = true := by simp [hbad]
  clear hbad
  go_enter Tryd.func8, Tryd.ntmps8
  go_wp2_with fail
  go_at_call 9
  refine HW.out.mono ?_
  rintro e w1 ⟨rfl, hb1⟩
  go_wp2_with fail
  go_at_call 19
  refine (HOR.out _ (Kd.C_below HR.out hb1)).mono ?_
  rintro e w3 hor
  unfold OrdR at hor; rw [Hl0.out] at hor; obtain ⟨A, cL, rfl, hcL, hrL, hb3⟩ := hor
  have HB := Aside0.mk (below_step hb1 hb3)
  have HL := Aside0.mk hrL
  have HCl := Lib.hid hcL
  clear hb1 hb3 hrL hcL HOR HW
  go_wp2_with fail
  go_at_call 18
  refine (HCL.out _ (Kd.C_below HR.out HB.out)).mono ?_
  rintro e w4 ⟨rfl, hb4⟩
  replace HL := Aside0.mk (Kd.C_below HL.out hb4)
  replace HB := Aside0.mk (below_step HB.out hb4)
  clear hb4 HCL
  obtain ⟨g0, hg0⟩ : ∃ b, (decide (clashE P = 0) && decide (P.length ≤ 4096)) = b := ⟨_, rfl⟩
  have H0 := Lib.hid (good_zero hg0)
  have HC : Hid ((((clashE P) == 0) = true ∧ decide ((P.length : Int) ≤ 4096) = true ∧ g0 = true) ∨ (((clashE P) == 0) = true ∧ decide ((P.length : Int) ≤ 4096) = false ∧ g0 = false) ∨ (((clashE P) == 0) = false ∧ g0 = false)) := Lib.hid (by
    rw [← hg0]
    by_cases h1 : clashE P = 0
    · by_cases h2 : P.length ≤ 4096
      · exact .inl ⟨by simp [h1], decide_eq_true (by omega), by simp [h1, h2]⟩
      · exact .inr (.inl ⟨by simp [h1], decide_eq_false (by omega), by simp [h2]⟩)
    · exact .inr (.inr ⟨by simp [h1], by simp [h1]⟩))
  clear hg0
  generalize clashE P = ce at *
  rcases HC.out with ⟨C1, C2, rfl⟩ | ⟨C1, C2, rfl⟩ | ⟨C1, rfl⟩
  all_goals
    clear HC
    go_wp2_with (go_at_call 11; refine (num_any _ _).mono ?_; rintro e w9 ⟨rfl, rfl⟩)
    try clear C2
    clear C1
    go_loopw [9, 10] (fun g i wr => ∃ k : Nat, k ≤ P.length ∧ i = .int .i64 k ∧ g = .bool (goodB P k) ∧ Aside0 (Below w.heap.size w wr)) (fun _ i _ => P.length - (intOf i).toNat)
    case atStart => exact ⟨0, by omega, rfl, by rw [H0.out], HB⟩
    case round =>
      clear HB
      obtain ⟨k, hk, rfl, rfl, HB⟩ := hrel
      by_cases hlt : k < P.length
      · skip
        obtain ⟨ad, B, c, e1, hx, hc, hrx⟩ := at_list HR.out k hlt
        cases e1
        replace hx := cell_stay HB.out hx
        have HPa : Hid (∀ w1 : World, Aside0 (Below w.heap.size w w1) → Calls Tryd.prog 20 #[.slice B (lx P k).length c] w1 fun e w' => e = .returned (.int .i64 (path (lx P k))) ∧ Below w1.heap.size w1 w') := Lib.hid fun w1 h => path_any B c _ w1 (Kd.C_below hrx h.out)
        have HU := Lib.hid (good_succ hlt)
        clear hrx hc H0
        generalize goodB P k = g1 at *
        generalize path (lx P k) = n at *
        generalize lx P k = xs at *
        cases g1 with
        | true =>
          by_cases h0 : n = 0
          · have hn : (n == 0) = true := by simp [h0]
            have HV : Hid (goodB P (k + 1) = true) := Lib.hid (by rw [HU.out]; simp [h0])
            clear h0 HU
            go_wp2_with (first | (go_at_call 20; refine (HPa.out _ HB).mono ?_; rintro e w2 ⟨rfl, hb2⟩) | (go_at_call 11; refine (num_any _ _).mono ?_; rintro e w9 ⟨rfl, rfl⟩))
            go_roundw
            case rel => exact ⟨k + 1, by omega, by go_num, congrArg Value.bool HV.out.symm, ⟨below_step HB.out hb2⟩⟩
            case measure => simp [intOf]; omega
          · have hn : (n == 0) = false := by simp [h0]
            have HV : Hid (goodB P (k + 1) = false) := Lib.hid (by rw [HU.out]; simp [h0])
            clear h0 HU
            go_wp2_with (first | (go_at_call 20; refine (HPa.out _ HB).mono ?_; rintro e w2 ⟨rfl, hb2⟩) | (go_at_call 11; refine (num_any _ _).mono ?_; rintro e w9 ⟨rfl, rfl⟩))
            go_roundw
            case rel => exact ⟨k + 1, by omega, by go_num, congrArg Value.bool HV.out.symm, ⟨below_step HB.out hb2⟩⟩
            case measure => simp [intOf]; omega
        | false =>
          have HV : Hid (goodB P (k + 1) = false) := Lib.hid (by rw [HU.out]; simp)
          clear HU
          go_wp2_with (first | (go_at_call 20; refine (HPa.out _ HB).mono ?_; rintro e w2 ⟨rfl, hb2⟩) | (go_at_call 11; refine (num_any _ _).mono ?_; rintro e w9 ⟨rfl, rfl⟩))
          go_roundw
          case rel => exact ⟨k + 1, by omega, by go_num, congrArg Value.bool HV.out.symm, ⟨below_step HB.out hb2⟩⟩
          case measure => simp [intOf]; omega
      · obtain rfl : k = P.length := by omega
        rw [HE.out]
        clear HE
        go_wp2_with (go_at_call 11; refine (num_any _ _).mono ?_; rintro e w9 ⟨rfl, rfl⟩)
        go_ret
        exact ⟨rfl, HB.out⟩
set_option maxHeartbeats 2000000 in
set_option maxRecDepth 100000 in
theorem law_good (A0 : Option Addr) (c0 : Nat) (P : List (List ByteArray)) (w : World) (hr : KL.C w A0 P.length P) (hl : P.length ≤ 5864062014804) (hs : Lens P) (hz : Shorts P) (hm : MaxOk w) (he : ordE P = 0) :
    Calls Tryd.prog 8 #[.slice A0 P.length c0] w fun e w' => e = .returned (.bool true) ∧ Below w.heap.size w w' := by
  have HW := Lib.hid (awake_any w hm)
  have HR := Aside0.mk hr
  have HS := Lib.hid hs
  have HCL : Hid (∀ w, KL.C w A0 P.length P → Calls Tryd.prog 18 #[.slice A0 P.length c0] w fun e w' => e = .returned (ClashV P) ∧ Below w.heap.size w w') := Lib.hid fun w h => clash_any A0 c0 P w h hl hs hz
  have HOR : Hid (∀ w, KL.C w A0 P.length P → Calls Tryd.prog 19 #[.slice A0 P.length c0] w (OrdR P w)) := Lib.hid fun w h => order_any A0 c0 P w h hl hs hz
  have hce : clashE P = (clashFrom P P.length 0).2.2 := rfl
  unfold ClashV at HCL
  rw [← hce] at HCL
  clear hr hs hz hm hce
  have hE := good_end P
  rw [he] at hE
  unfold goodB at hE
  simp only [decide_true, Bool.and_eq_true, decide_eq_true_eq, List.take_length, List.all_eq_true] at hE
  have HZ := Lib.hid hE.2
  have C1 : (clashE P == 0) = true := by simp [hE.1.1]
  have C2 : decide ((P.length : Int) ≤ 4096) = true := decide_eq_true (by have := hE.1.2; omega)
  have hl0 : ordL P = sortI P := if_pos he
  have Hl0 := Lib.hid hl0
  have HN := Lib.hid (sortI_length P)
  have HA : Hid (∀ k, k + 1 < P.length → lessL (lx P (plc P k)) (lx P (plc P (k + 1))) = true) := Lib.hid fun k hk => plc_rises (apart_ord he) hk
  have HG : Hid (∀ k, k < P.length → rd (sortI P) (k : Int) = (plc P k : Int)) := Lib.hid fun k hk => sortI_get hk
  have HP : Hid (∀ k, k < P.length → plc P k < P.length) := Lib.hid fun k hk => plc_lt hk
  have N1 : (ordE P == 0) = true := by simp [he]
  have N2 : (ordE P != 0) = false := by simp [he]
  clear hE he hl0
  generalize clashE P = ce at *
  go_enter Tryd.func8, Tryd.ntmps8
  go_wp2_with fail
  go_at_call 9
  refine HW.out.mono ?_
  rintro e w1 ⟨rfl, hb1⟩
  go_wp2_with fail
  go_at_call 19
  refine (HOR.out _ (Kd.C_below HR.out hb1)).mono ?_
  rintro e w3 hor
  unfold OrdR at hor; rw [Hl0.out, HN.out] at hor; obtain ⟨A, cL, rfl, hcL, hrL, hb3⟩ := hor
  have HB := Aside0.mk (below_step hb1 hb3)
  have HL := Aside0.mk hrL
  have HCl := Lib.hid hcL
  clear hb1 hb3 hrL hcL HOR HW
  go_wp2_with fail
  go_at_call 18
  refine (HCL.out _ (Kd.C_below HR.out HB.out)).mono ?_
  rintro e w4 ⟨rfl, hb4⟩
  replace HL := Aside0.mk (Kd.C_below HL.out hb4)
  replace HB := Aside0.mk (below_step HB.out hb4)
  clear hb4 HCL
  clear HN
  generalize sortI P = L at *
  go_wp2_with (go_at_call 11; refine (num_any _ _).mono ?_; rintro e w9 ⟨rfl, rfl⟩)
  clear C1 C2
  go_loopw [9, 10] (fun g i wr => ∃ k : Nat, k ≤ P.length ∧ i = .int .i64 k ∧ g = .bool true ∧ Aside0 (Below w.heap.size w wr) ∧ Aside0 ((Kd.int .i64).C wr A P.length L)) (fun _ i _ => P.length - (intOf i).toNat)
  case atStart => exact ⟨0, by omega, rfl, rfl, HB, HL⟩
  case round =>
    clear HB HL
    obtain ⟨k, hk, rfl, rfl, HB, HL⟩ := hrel
    by_cases hlt : k < P.length
    · skip
      obtain ⟨ad, B, c, e1, hx, hc, hrx⟩ := at_list HR.out k hlt
      cases e1
      replace hx := cell_stay HB.out hx
      have HPa : Hid (∀ w1 : World, Aside0 (Below w.heap.size w w1) → Calls Tryd.prog 20 #[.slice B (lx P k).length c] w1 fun e w' => e = .returned (.int .i64 (path (lx P k))) ∧ Below w1.heap.size w1 w') := Lib.hid fun w1 h => path_any B c _ w1 (Kd.C_below hrx h.out)
      have hpz : path (lx P k) = 0 := HZ.out _ (nth_mem [] P k hlt)
      rw [hpz] at HPa
      clear hrx hc hpz
      generalize lx P k = xs at *
      go_wp2_with (first | (go_at_call 20; refine (HPa.out _ HB).mono ?_; rintro e w2 ⟨rfl, hb2⟩) | (go_at_call 11; refine (num_any _ _).mono ?_; rintro e w9 ⟨rfl, rfl⟩))
      go_roundw
      case rel => exact ⟨k + 1, by omega, by go_num, rfl, ⟨below_step HB.out hb2⟩, ⟨Kd.C_below HL.out hb2⟩⟩
      case measure => simp [intOf]; omega
    · obtain rfl : k = P.length := by omega
      go_wp2_with (go_at_call 11; refine (num_any _ _).mono ?_; rintro e w9 ⟨rfl, rfl⟩)
      obtain ⟨wo, hwo⟩ : ∃ wo : World, wo = wr := ⟨_, rfl⟩
      subst hwo
      go_loopw [12] (fun i wq => ∃ j : Nat, j ≤ P.length ∧ i = .int .i64 j ∧ Aside0 (Below w.heap.size w wq) ∧ Aside0 (Below wo.heap.size wo wq)) (fun i _ => P.length - (intOf i).toNat)
      case atStart => exact ⟨0, by omega, rfl, HB, ⟨Below.refl _ _⟩⟩
      case round =>
        obtain ⟨j, hj, rfl, HB, HD⟩ := hrel
        by_cases hlt : j < P.length
        · obtain ⟨al, e1, hcl⟩ := Kd.at_int HL.out (j : Int) (by omega) (by omega)
          cases e1
          rw [HG.out j hlt] at hcl
          have hm : plc P j < P.length := HP.out j hlt
          rw [Int.toNat_natCast] at hcl
          replace hcl := cell_stay HD.out hcl
          have T1 : decide (((plc P j : Nat) : Int) < 0) = false := decide_eq_false (by omega)
          have T2 : decide ((P.length : Int) ≤ ((plc P j : Nat) : Int)) = false := decide_eq_false (by omega)
          by_cases hj0 : j = 0
          · have T3 : ¬ 0 < j := by omega
            clear hj0
            generalize plc P j = m at *
            go_wp2
            go_roundw
            case rel => exact ⟨j + 1, by omega, by go_num, HB, HD⟩
            case measure => simp [intOf]; omega
          · obtain ⟨i, hi⟩ : ∃ i : Nat, j = i + 1 := ⟨j - 1, by omega⟩
            have T3 : 0 < j := by omega
            have T4 : decide (0 < (j : Int)) = true := decide_eq_true (by omega)
            have hilt : i < P.length := by omega
            obtain ⟨al2, e2, hcl2⟩ := Kd.at_int HL.out (i : Int) (by omega) (by omega)
            cases e2
            rw [HG.out i hilt] at hcl2
            have hm2 : plc P i < P.length := HP.out i hilt
            rw [Int.toNat_natCast] at hcl2
            replace hcl2 := cell_stay HD.out hcl2
            obtain ⟨ad, Bm, cm, e1, hxm, hcm, hrm⟩ := at_list HR.out (plc P j) hm
            obtain ⟨ad2, Bn, cn, e2, hxn, hcn, hrn⟩ := at_list HR.out (plc P i) hm2
            have e3 := Option.some.inj (e1.symm.trans e2)
            subst e3
            cases e1
            clear e2
            have HU : Hid (lessL (lx P (plc P i)) (lx P (plc P j)) = true) := Lib.hid (by rw [hi]; exact HA.out i (by omega))
            have LM := Lib.hid (HS.out _ (nth_mem [] P _ hm))
            have LN := Lib.hid (HS.out _ (nth_mem [] P _ hm2))
            have HQ : Hid (∀ w0 : World, Aside0 (Below w.heap.size w w0) → Calls Tryd.prog 16 #[.slice Bn (lx P (plc P i)).length cn, .slice Bm (lx P (plc P j)).length cm] w0 fun e w' => e = .returned (.bool true) ∧ ∃ k, w' = w0.drewN k) := Lib.hid fun w0 h => by
              have := less_any Bn cn _ Bm cm _ w0 (Kd.C_below hrn h.out) (Kd.C_below hrm h.out) LN.out LM.out
              rw [HU.out] at this
              exact this.mono fun e w' ⟨h1, h2⟩ => ⟨h1, 0, h2.symm⟩
            replace hxm := cell_stay HB.out hxm
            replace hxn := cell_stay HB.out hxn
            have hw1 : IntKind.i64.wrap ((j : Int) - 1) = (i : Int) := by rw [IntWalk.i64_in _ (by omega)]; omega
            have W1 := Lib.hid hw1
            clear hw1 HU LM LN hrm hrn hcm hcn hi hj0
            generalize plc P j = m at *
            generalize plc P i = n at *
            generalize lx P m = xm at *
            generalize lx P n = xn at *
            go_wp2_with fail
            have hw1 := W1.out
            go_quiet ((go_at_call 16; with_reducible exact Calls.quiet_of (HQ.out _ ⟨below_drewN HB.out _⟩)))
            clear hw1
            go_wp2
            go_roundw
            case rel => exact ⟨j + 1, by omega, by go_num, ⟨below_drewN HB.out _⟩, ⟨below_drewN HD.out _⟩⟩
            case measure => simp [intOf]; omega
        · obtain rfl : j = P.length := by omega
          go_wp2
          go_ret
          exact ⟨rfl, HB.out⟩
theorem law_any (A0 : Option Addr) (c0 : Nat) (P : List (List ByteArray)) (w : World) (hr : KL.C w A0 P.length P) (hc : P.length ≤ c0) (hl : P.length ≤ 5864062014804) (hs : Lens P) (hz : Shorts P) (hm : MaxOk w) :
    Calls Tryd.prog 8 #[.slice A0 P.length c0] w fun e w' => e = .returned (.bool true) ∧ Below w.heap.size w w' := by
  by_cases h : ordE P = 0
  · exact law_good A0 c0 P w hr hl hs hz hm h
  · exact law_bad A0 c0 P w hr hl hs hz hm h
end Go.Proofs.YtpkeabggkeecaaaDoor.LawNamesOrderRises
