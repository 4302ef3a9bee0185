/- torrentlaw5.NamesClashShown: the two places that Clash tells do clash, as it tells, and no clash of the list ends ahead of it. No condition beyond the form's own. Its card is tied. -/
import Derived.Test.YtgbeppbdebibiaaDoorCards
import Derived.Test.YtgbeppbdebibiaaDoorTie
import Derived.Test.YtgbeppbdebibiaaDoorTab
import Derived.Test.YtgbeppbdebibiaaDoorRowU
import Derived.Test.YtgbeppbdebibiaaDoorAw
import Derived.Test.YtgbeppbdebibiaaDoorNo
import Derived.Test.YtgbeppbdebibiaaDoorPc
import Derived.Test.YtgbeppbdebibiaaDoorNk
import Derived.Shelf.Vars
set_option linter.unusedVariables false
set_option linter.unusedSimpArgs false
namespace Go.Proofs.YtgbeppbdebibiaaDoor.LawNamesClashShown
open Go.ChangeShapes Go.WideShapes Go.ChangeAt Go.RowKit Go.Proofs.YtgbeppbdebibiaaDoorW.PrintWords
open Go.Proofs.YtgbeppbdebibiaaDoor.Wd Go.Proofs.YtgbeppbdebibiaaDoor.Nm
set_option maxHeartbeats 2000000 in
set_option maxRecDepth 100000 in
theorem law_any (A0 : Option Addr) (c0 : Nat) (P : List (List ByteArray)) (m n : Int) (w : World) (hr : KL.C w A0 P.length P) (hc : P.length ≤ c0) (hl : P.length ≤ 5864062014804) (hs : Lens P) (hz : Shorts P) (hmw : (Lit.int .i64 m).wf = true) (hnw : (Lit.int .i64 n).wf = true) (hm : MaxOk w) :
    Calls Tryd.prog 7 #[.slice A0 P.length c0, .int .i64 m, .int .i64 n] w fun e w' => e = .returned (.bool true) ∧ Below w.heap.size w w' := by
  have HW := Lib.hid (awake_any w hm)
  have HR := Aside0.mk hr
  have HS := Lib.hid hs
  have HCL : Hid (∀ w, KL.C w A0 P.length P → Calls Tryd.prog 18 #[.slice A0 P.length c0] w fun e w' => e = .returned (ClashV P) ∧ Below w.heap.size w w') := Lib.hid fun w h => clash_any A0 c0 P w h hl hs hz
  have hsay := clash_says P
  unfold ClashV at HCL
  clear hr hs hz hm hmw hnw hc
  rcases hsay with ⟨hv, hf⟩ | ⟨i, j, hv, hij, hij2, hcl, hf⟩
  · rw [hv] at HCL
    have HF : Hid (∀ m n, m < n → n < P.length → ¬ cl (lx P m) (lx P n)) := Lib.hid fun m n h1 h2 => hf m n h1 h2 (by omega)
    clear hf hv
    go_enter Tryd.func7, Tryd.ntmps7
    go_wp2_with fail
    go_at_call 9
    refine HW.out.mono ?_
    rintro e w1 ⟨rfl, hb1⟩
    go_wp2_with fail
    go_at_call 18
    refine (HCL.out _ (Kd.C_below HR.out hb1)).mono ?_
    rintro e w2 ⟨rfl, hb2⟩
    have HB := Aside0.mk (below_step hb1 hb2)
    clear hb1 hb2 HCL HW
    go_wp2_with fail
    go_at_call 11
    refine (num_any _ _).mono ?_
    rintro e w3 ⟨rfl, rfl⟩
    by_cases g1 : m < 0
    · have T1 : decide (m < 0) = true := decide_eq_true g1
      clear g1
      go_wp2_with (go_at_call 11; refine (num_any _ _).mono ?_; rintro e w4 ⟨rfl, rfl⟩)
      go_ret
      exact ⟨rfl, HB.out⟩
    · by_cases g2 : n ≤ m
      · have T1 : decide (m < 0) = false := decide_eq_false g1
        have T2 : decide (n ≤ m) = true := decide_eq_true g2
        clear g1 g2
        go_wp2_with (go_at_call 11; refine (num_any _ _).mono ?_; rintro e w4 ⟨rfl, rfl⟩)
        go_ret
        exact ⟨rfl, HB.out⟩
      · by_cases g3 : (P.length : Int) ≤ n
        · have T1 : decide (m < 0) = false := decide_eq_false g1
          have T2 : decide (n ≤ m) = false := decide_eq_false g2
          have T3 : decide ((P.length : Int) ≤ n) = true := decide_eq_true g3
          clear g1 g2 g3
          go_wp2_with (go_at_call 11; refine (num_any _ _).mono ?_; rintro e w4 ⟨rfl, rfl⟩)
          go_ret
          exact ⟨rfl, HB.out⟩
        · obtain ⟨m', rfl⟩ : ∃ k : Nat, m = k := ⟨m.toNat, by omega⟩
          obtain ⟨n', rfl⟩ : ∃ k : Nat, n = k := ⟨n.toNat, by omega⟩
          have hmn : m' < n' := by omega
          have hnl : n' < P.length := by omega
          obtain ⟨ad, Bm, cm, e1, hxm, hcm, hrm⟩ := at_list HR.out m' (by omega)
          obtain ⟨ad2, Bn, cn, e2, hxn, hcn, hrn⟩ := at_list HR.out n' hnl
          have e3 := Option.some.inj (e1.symm.trans e2)
          subst e3
          cases e1
          clear e2
          have FC := Lib.hid (HF.out m' n' hmn hnl)
          have T1 : decide ((m' : Int) < 0) = false := decide_eq_false (by omega)
          have T2 : decide ((n' : Int) ≤ (m' : Int)) = false := decide_eq_false (by omega)
          have T3 : decide ((P.length : Int) ≤ (n' : Int)) = false := decide_eq_false (by omega)
          have hm2 : m' < P.length := by omega
          have LM := Lib.hid (HS.out _ (nth_mem [] P m' hm2))
          have LN := Lib.hid (HS.out _ (nth_mem [] P n' hnl))
          have HQ1 : Hid (∀ w0 : World, Aside0 (Below w.heap.size w w0) → Calls Tryd.prog 17 #[.slice Bm (lx P m').length cm, .slice Bn (lx P n').length cn] w0 fun e w' => e = .returned (.bool (stB (lx P m') (lx P n'))) ∧ ∃ k, w' = w0.drewN k) := Lib.hid fun w0 h => begins_q _ _ _ _ _ _ w0 (Kd.C_below hrm h.out) (Kd.C_below hrn h.out) hcn LM.out
          have HQ2 : Hid (∀ w0 : World, Aside0 (Below w.heap.size w w0) → Calls Tryd.prog 17 #[.slice Bn (lx P n').length cn, .slice Bm (lx P m').length cm] w0 fun e w' => e = .returned (.bool (stB (lx P n') (lx P m'))) ∧ ∃ k, w' = w0.drewN k) := Lib.hid fun w0 h => begins_q _ _ _ _ _ _ w0 (Kd.C_below hrn h.out) (Kd.C_below hrm h.out) hcm LN.out
          have hxm1 := cell_stay HB.out hxm
          have hxn1 := cell_stay HB.out hxn
          clear hrm hrn hcm hcn g1 g2 g3 LM LN
          unfold cl at FC
          generalize stB (lx P m') (lx P n') = b3 at *
          generalize stB (lx P n') (lx P m') = b4 at *
          generalize lx P m' = xm at *
          generalize lx P n' = xn at *
          cases b3 with
          | true =>
            exact absurd (.inl rfl) FC.out
          | false =>
            cases b4 with
            | true =>
              exact absurd (.inr rfl) FC.out
            | false =>
              clear FC
              go_wp2_with (go_at_call 11; refine (num_any _ _).mono ?_; rintro e w4 ⟨rfl, rfl⟩)
              go_quiet (first | (go_at_call 17; with_reducible exact Calls.quiet_of (HQ1.out _ ⟨below_drewN HB.out _⟩)) | (go_at_call 17; with_reducible exact Calls.quiet_of (HQ2.out _ ⟨below_drewN HB.out _⟩)))
              go_wp2_with (go_at_call 11; refine (num_any _ _).mono ?_; rintro e w4 ⟨rfl, rfl⟩)
              all_goals (go_ret; exact ⟨by first | rfl | exact ret_b (by have := HJ.out; simp; omega) | exact ret_b (by have := HJ.out; simp at *; omega), below_drewN HB.out _⟩)
  · rw [hv] at HCL
    have HF : Hid (∀ m n, m < n → n < P.length → cl (lx P m) (lx P n) → j < n ∨ (j = n ∧ i ≤ m)) := Lib.hid fun m n h1 h2 => hf m n h1 h2 (by omega)
    clear hf hv
    go_enter Tryd.func7, Tryd.ntmps7
    go_wp2_with fail
    go_at_call 9
    refine HW.out.mono ?_
    rintro e w1 ⟨rfl, hb1⟩
    go_wp2_with fail
    go_at_call 18
    refine (HCL.out _ (Kd.C_below HR.out hb1)).mono ?_
    rintro e w2 ⟨rfl, hb2⟩
    have HB := Aside0.mk (below_step hb1 hb2)
    clear hb1 hb2 HCL HW
    obtain ⟨ai, Bi, ci, e1, hxi, hci, hri⟩ := at_list HR.out i (by omega)
    obtain ⟨aj, Bj, cj, e2, hxj, hcj, hrj⟩ := at_list HR.out j hij2
    have e3 := Option.some.inj (e1.symm.trans e2)
    subst e3
    subst e1
    clear e2
    have P1 : decide ((i : Int) < 0) = false := decide_eq_false (by omega)
    have P2 : decide ((j : Int) ≤ (i : Int)) = false := decide_eq_false (by omega)
    have P3 : decide ((P.length : Int) ≤ (j : Int)) = false := decide_eq_false (by omega)
    have hi2 : i < P.length := by omega
    have LI := Lib.hid (HS.out _ (nth_mem [] P i hi2))
    have LJ := Lib.hid (HS.out _ (nth_mem [] P j hij2))
    have HI1 : Hid (∀ w0 : World, Aside0 (Below w.heap.size w w0) → Calls Tryd.prog 17 #[.slice Bi (lx P i).length ci, .slice Bj (lx P j).length cj] w0 fun e w' => e = .returned (.bool (stB (lx P i) (lx P j))) ∧ ∃ k, w' = w0.drewN k) := Lib.hid fun w0 h => begins_q _ _ _ _ _ _ w0 (Kd.C_below hri h.out) (Kd.C_below hrj h.out) hcj LI.out
    have HI2 : Hid (∀ w0 : World, Aside0 (Below w.heap.size w w0) → Calls Tryd.prog 17 #[.slice Bj (lx P j).length cj, .slice Bi (lx P i).length ci] w0 fun e w' => e = .returned (.bool (stB (lx P j) (lx P i))) ∧ ∃ k, w' = w0.drewN k) := Lib.hid fun w0 h => begins_q _ _ _ _ _ _ w0 (Kd.C_below hrj h.out) (Kd.C_below hri h.out) hci LJ.out
    have hxi1 := cell_stay HB.out hxi
    have hxj1 := cell_stay HB.out hxj
    clear hri hrj hci hcj LI LJ
    have HV : Hid ((stB (lx P i) (lx P j) = true ∧ stB (lx P j) (lx P i) = true ∧ bothV (lx P i) (lx P j) = 56) ∨ (stB (lx P i) (lx P j) = true ∧ stB (lx P j) (lx P i) = false ∧ bothV (lx P i) (lx P j) = 57) ∨ (stB (lx P i) (lx P j) = false ∧ stB (lx P j) (lx P i) = true ∧ bothV (lx P i) (lx P j) = 57)) := Lib.hid (by
      unfold cl at hcl
      unfold bothV
      revert hcl
      generalize stB (lx P i) (lx P j) = b1
      generalize stB (lx P j) (lx P i) = b2
      cases b1 <;> cases b2 <;> simp)
    have hv0 : (bothV (lx P i) (lx P j) != 0) = true := by rw [bne_iff_ne]; intro e; exact (bothV_cl _ _).1 e hcl
    clear hcl
    generalize bothV (lx P i) (lx P j) = v at *
    generalize stB (lx P i) (lx P j) = b1 at *
    generalize stB (lx P j) (lx P i) = b2 at *
    generalize lx P i = xi at *
    generalize lx P j = xj at *
    go_wp2_with (go_at_call 11; refine (num_any _ _).mono ?_; rintro e w4 ⟨rfl, rfl⟩)
    go_quiet ((go_at_call 17; exact Calls.quiet_of (HI1.out _ ⟨below_drewN HB.out _⟩)))
    replace HB := Aside0.mk (below_drewN HB.out nq)
    clear hxi1 hxj1
    generalize w2.drewN nq = w3 at *
    have hxi1 := cell_stay HB.out hxi
    have hxj1 := cell_stay HB.out hxj
    go_wp2_with fail
    go_quiet ((go_at_call 17; exact Calls.quiet_of (HI2.out _ ⟨below_drewN HB.out _⟩)))
    replace HB := Aside0.mk (below_drewN HB.out nq)
    clear hxi1 hxj1 hxi hxj HI1 HI2
    generalize w3.drewN nq = w4 at *
    rcases HV.out with ⟨h1, h2, h3⟩ | ⟨h1, h2, h3⟩ | ⟨h1, h2, h3⟩
    · subst h1 h2 h3
      clear HV hv0
      by_cases g1 : m < 0
      · have T1 : decide (m < 0) = true := decide_eq_true g1
        clear g1
        go_wp2_with (go_at_call 11; refine (num_any _ _).mono ?_; rintro e w4 ⟨rfl, rfl⟩)
        go_ret
        exact ⟨rfl, HB.out⟩
      · by_cases g2 : n ≤ m
        · have T1 : decide (m < 0) = false := decide_eq_false g1
          have T2 : decide (n ≤ m) = true := decide_eq_true g2
          clear g1 g2
          go_wp2_with (go_at_call 11; refine (num_any _ _).mono ?_; rintro e w4 ⟨rfl, rfl⟩)
          go_ret
          exact ⟨rfl, HB.out⟩
        · by_cases g3 : (P.length : Int) ≤ n
          · have T1 : decide (m < 0) = false := decide_eq_false g1
            have T2 : decide (n ≤ m) = false := decide_eq_false g2
            have T3 : decide ((P.length : Int) ≤ n) = true := decide_eq_true g3
            clear g1 g2 g3
            go_wp2_with (go_at_call 11; refine (num_any _ _).mono ?_; rintro e w4 ⟨rfl, rfl⟩)
            go_ret
            exact ⟨rfl, HB.out⟩
          · obtain ⟨m', rfl⟩ : ∃ k : Nat, m = k := ⟨m.toNat, by omega⟩
            obtain ⟨n', rfl⟩ : ∃ k : Nat, n = k := ⟨n.toNat, by omega⟩
            have hmn : m' < n' := by omega
            have hnl : n' < P.length := by omega
            obtain ⟨ad, Bm, cm, e1, hxm, hcm, hrm⟩ := at_list HR.out m' (by omega)
            obtain ⟨ad2, Bn, cn, e2, hxn, hcn, hrn⟩ := at_list HR.out n' hnl
            have e3 := Option.some.inj (e1.symm.trans e2)
            subst e3
            cases e1
            clear e2
            have FC := Lib.hid (HF.out m' n' hmn hnl)
            have T1 : decide ((m' : Int) < 0) = false := decide_eq_false (by omega)
            have T2 : decide ((n' : Int) ≤ (m' : Int)) = false := decide_eq_false (by omega)
            have T3 : decide ((P.length : Int) ≤ (n' : Int)) = false := decide_eq_false (by omega)
            have hm2 : m' < P.length := by omega
            have LM := Lib.hid (HS.out _ (nth_mem [] P m' hm2))
            have LN := Lib.hid (HS.out _ (nth_mem [] P n' hnl))
            have HQ1 : Hid (∀ w0 : World, Aside0 (Below w.heap.size w w0) → Calls Tryd.prog 17 #[.slice Bm (lx P m').length cm, .slice Bn (lx P n').length cn] w0 fun e w' => e = .returned (.bool (stB (lx P m') (lx P n'))) ∧ ∃ k, w' = w0.drewN k) := Lib.hid fun w0 h => begins_q _ _ _ _ _ _ w0 (Kd.C_below hrm h.out) (Kd.C_below hrn h.out) hcn LM.out
            have HQ2 : Hid (∀ w0 : World, Aside0 (Below w.heap.size w w0) → Calls Tryd.prog 17 #[.slice Bn (lx P n').length cn, .slice Bm (lx P m').length cm] w0 fun e w' => e = .returned (.bool (stB (lx P n') (lx P m'))) ∧ ∃ k, w' = w0.drewN k) := Lib.hid fun w0 h => begins_q _ _ _ _ _ _ w0 (Kd.C_below hrn h.out) (Kd.C_below hrm h.out) hcm LN.out
            have hxm1 := cell_stay HB.out hxm
            have hxn1 := cell_stay HB.out hxn
            clear hrm hrn hcm hcn g1 g2 g3 LM LN
            unfold cl at FC
            generalize stB (lx P m') (lx P n') = b3 at *
            generalize stB (lx P n') (lx P m') = b4 at *
            generalize lx P m' = xm at *
            generalize lx P n' = xn at *
            cases b3 with
            | true =>
              rcases FC.out (.inl rfl) with hj | ⟨hj1, hj2⟩
              · have HJ : Hid (j < n' ∨ i ≤ m') := Lib.hid (.inl hj)
                have U1 : decide ((j : Int) < (n' : Int)) = true := decide_eq_true (by omega)
                clear hj FC
                go_wp2_with (go_at_call 11; refine (num_any _ _).mono ?_; rintro e w4 ⟨rfl, rfl⟩)
                go_quiet ((go_at_call 17; with_reducible exact Calls.quiet_of (HQ1.out _ ⟨below_drewN HB.out _⟩)))
                go_wp2_with (go_at_call 11; refine (num_any _ _).mono ?_; rintro e w4 ⟨rfl, rfl⟩)
                all_goals (go_ret; exact ⟨by first | rfl | exact ret_b (by have := HJ.out; simp; omega) | exact ret_b (by have := HJ.out; simp at *; omega), below_drewN HB.out _⟩)
              · have HJ : Hid (j < n' ∨ i ≤ m') := Lib.hid (.inr hj2)
                have U1 : decide ((j : Int) < (n' : Int)) = false := decide_eq_false (by omega)
                have U2 : ((j : Int) == (n' : Int)) = true := by rw [beq_iff_eq]; omega
                have U3 : decide ((i : Int) ≤ (m' : Int)) = true := decide_eq_true (by omega)
                clear hj1 hj2 FC
                go_wp2_with (go_at_call 11; refine (num_any _ _).mono ?_; rintro e w4 ⟨rfl, rfl⟩)
                go_quiet ((go_at_call 17; with_reducible exact Calls.quiet_of (HQ1.out _ ⟨below_drewN HB.out _⟩)))
                go_wp2_with (go_at_call 11; refine (num_any _ _).mono ?_; rintro e w4 ⟨rfl, rfl⟩)
                all_goals (go_ret; exact ⟨by first | rfl | exact ret_b (by have := HJ.out; simp; omega) | exact ret_b (by have := HJ.out; simp at *; omega), below_drewN HB.out _⟩)
            | false =>
              cases b4 with
              | true =>
                rcases FC.out (.inr rfl) with hj | ⟨hj1, hj2⟩
                · have HJ : Hid (j < n' ∨ i ≤ m') := Lib.hid (.inl hj)
                  have U1 : decide ((j : Int) < (n' : Int)) = true := decide_eq_true (by omega)
                  clear hj FC
                  go_wp2_with (go_at_call 11; refine (num_any _ _).mono ?_; rintro e w4 ⟨rfl, rfl⟩)
                  go_quiet (first | (go_at_call 17; with_reducible exact Calls.quiet_of (HQ1.out _ ⟨below_drewN HB.out _⟩)) | (go_at_call 17; with_reducible exact Calls.quiet_of (HQ2.out _ ⟨below_drewN HB.out _⟩)))
                  go_wp2_with (go_at_call 11; refine (num_any _ _).mono ?_; rintro e w4 ⟨rfl, rfl⟩)
                  all_goals (go_ret; exact ⟨by first | rfl | exact ret_b (by have := HJ.out; simp; omega) | exact ret_b (by have := HJ.out; simp at *; omega), below_drewN HB.out _⟩)
                · have HJ : Hid (j < n' ∨ i ≤ m') := Lib.hid (.inr hj2)
                  have U1 : decide ((j : Int) < (n' : Int)) = false := decide_eq_false (by omega)
                  have U2 : ((j : Int) == (n' : Int)) = true := by rw [beq_iff_eq]; omega
                  have U3 : decide ((i : Int) ≤ (m' : Int)) = true := decide_eq_true (by omega)
                  clear hj1 hj2 FC
                  go_wp2_with (go_at_call 11; refine (num_any _ _).mono ?_; rintro e w4 ⟨rfl, rfl⟩)
                  go_quiet (first | (go_at_call 17; with_reducible exact Calls.quiet_of (HQ1.out _ ⟨below_drewN HB.out _⟩)) | (go_at_call 17; with_reducible exact Calls.quiet_of (HQ2.out _ ⟨below_drewN HB.out _⟩)))
                  go_wp2_with (go_at_call 11; refine (num_any _ _).mono ?_; rintro e w4 ⟨rfl, rfl⟩)
                  all_goals (go_ret; exact ⟨by first | rfl | exact ret_b (by have := HJ.out; simp; omega) | exact ret_b (by have := HJ.out; simp at *; omega), below_drewN HB.out _⟩)
              | false =>
                clear FC
                go_wp2_with (go_at_call 11; refine (num_any _ _).mono ?_; rintro e w4 ⟨rfl, rfl⟩)
                go_quiet (first | (go_at_call 17; with_reducible exact Calls.quiet_of (HQ1.out _ ⟨below_drewN HB.out _⟩)) | (go_at_call 17; with_reducible exact Calls.quiet_of (HQ2.out _ ⟨below_drewN HB.out _⟩)))
                go_wp2_with (go_at_call 11; refine (num_any _ _).mono ?_; rintro e w4 ⟨rfl, rfl⟩)
                all_goals (go_ret; exact ⟨by first | rfl | exact ret_b (by have := HJ.out; simp; omega) | exact ret_b (by have := HJ.out; simp at *; omega), below_drewN HB.out _⟩)
    · subst h1 h2 h3
      clear HV hv0
      by_cases g1 : m < 0
      · have T1 : decide (m < 0) = true := decide_eq_true g1
        clear g1
        go_wp2_with (go_at_call 11; refine (num_any _ _).mono ?_; rintro e w4 ⟨rfl, rfl⟩)
        go_ret
        exact ⟨rfl, HB.out⟩
      · by_cases g2 : n ≤ m
        · have T1 : decide (m < 0) = false := decide_eq_false g1
          have T2 : decide (n ≤ m) = true := decide_eq_true g2
          clear g1 g2
          go_wp2_with (go_at_call 11; refine (num_any _ _).mono ?_; rintro e w4 ⟨rfl, rfl⟩)
          go_ret
          exact ⟨rfl, HB.out⟩
        · by_cases g3 : (P.length : Int) ≤ n
          · have T1 : decide (m < 0) = false := decide_eq_false g1
            have T2 : decide (n ≤ m) = false := decide_eq_false g2
            have T3 : decide ((P.length : Int) ≤ n) = true := decide_eq_true g3
            clear g1 g2 g3
            go_wp2_with (go_at_call 11; refine (num_any _ _).mono ?_; rintro e w4 ⟨rfl, rfl⟩)
            go_ret
            exact ⟨rfl, HB.out⟩
          · obtain ⟨m', rfl⟩ : ∃ k : Nat, m = k := ⟨m.toNat, by omega⟩
            obtain ⟨n', rfl⟩ : ∃ k : Nat, n = k := ⟨n.toNat, by omega⟩
            have hmn : m' < n' := by omega
            have hnl : n' < P.length := by omega
            obtain ⟨ad, Bm, cm, e1, hxm, hcm, hrm⟩ := at_list HR.out m' (by omega)
            obtain ⟨ad2, Bn, cn, e2, hxn, hcn, hrn⟩ := at_list HR.out n' hnl
            have e3 := Option.some.inj (e1.symm.trans e2)
            subst e3
            cases e1
            clear e2
            have FC := Lib.hid (HF.out m' n' hmn hnl)
            have T1 : decide ((m' : Int) < 0) = false := decide_eq_false (by omega)
            have T2 : decide ((n' : Int) ≤ (m' : Int)) = false := decide_eq_false (by omega)
            have T3 : decide ((P.length : Int) ≤ (n' : Int)) = false := decide_eq_false (by omega)
            have hm2 : m' < P.length := by omega
            have LM := Lib.hid (HS.out _ (nth_mem [] P m' hm2))
            have LN := Lib.hid (HS.out _ (nth_mem [] P n' hnl))
            have HQ1 : Hid (∀ w0 : World, Aside0 (Below w.heap.size w w0) → Calls Tryd.prog 17 #[.slice Bm (lx P m').length cm, .slice Bn (lx P n').length cn] w0 fun e w' => e = .returned (.bool (stB (lx P m') (lx P n'))) ∧ ∃ k, w' = w0.drewN k) := Lib.hid fun w0 h => begins_q _ _ _ _ _ _ w0 (Kd.C_below hrm h.out) (Kd.C_below hrn h.out) hcn LM.out
            have HQ2 : Hid (∀ w0 : World, Aside0 (Below w.heap.size w w0) → Calls Tryd.prog 17 #[.slice Bn (lx P n').length cn, .slice Bm (lx P m').length cm] w0 fun e w' => e = .returned (.bool (stB (lx P n') (lx P m'))) ∧ ∃ k, w' = w0.drewN k) := Lib.hid fun w0 h => begins_q _ _ _ _ _ _ w0 (Kd.C_below hrn h.out) (Kd.C_below hrm h.out) hcm LN.out
            have hxm1 := cell_stay HB.out hxm
            have hxn1 := cell_stay HB.out hxn
            clear hrm hrn hcm hcn g1 g2 g3 LM LN
            unfold cl at FC
            generalize stB (lx P m') (lx P n') = b3 at *
            generalize stB (lx P n') (lx P m') = b4 at *
            generalize lx P m' = xm at *
            generalize lx P n' = xn at *
            cases b3 with
            | true =>
              rcases FC.out (.inl rfl) with hj | ⟨hj1, hj2⟩
              · have HJ : Hid (j < n' ∨ i ≤ m') := Lib.hid (.inl hj)
                have U1 : decide ((j : Int) < (n' : Int)) = true := decide_eq_true (by omega)
                clear hj FC
                go_wp2_with (go_at_call 11; refine (num_any _ _).mono ?_; rintro e w4 ⟨rfl, rfl⟩)
                go_quiet ((go_at_call 17; with_reducible exact Calls.quiet_of (HQ1.out _ ⟨below_drewN HB.out _⟩)))
                go_wp2_with (go_at_call 11; refine (num_any _ _).mono ?_; rintro e w4 ⟨rfl, rfl⟩)
                all_goals (go_ret; exact ⟨by first | rfl | exact ret_b (by have := HJ.out; simp; omega) | exact ret_b (by have := HJ.out; simp at *; omega), below_drewN HB.out _⟩)
              · have HJ : Hid (j < n' ∨ i ≤ m') := Lib.hid (.inr hj2)
                have U1 : decide ((j : Int) < (n' : Int)) = false := decide_eq_false (by omega)
                have U2 : ((j : Int) == (n' : Int)) = true := by rw [beq_iff_eq]; omega
                have U3 : decide ((i : Int) ≤ (m' : Int)) = true := decide_eq_true (by omega)
                clear hj1 hj2 FC
                go_wp2_with (go_at_call 11; refine (num_any _ _).mono ?_; rintro e w4 ⟨rfl, rfl⟩)
                go_quiet ((go_at_call 17; with_reducible exact Calls.quiet_of (HQ1.out _ ⟨below_drewN HB.out _⟩)))
                go_wp2_with (go_at_call 11; refine (num_any _ _).mono ?_; rintro e w4 ⟨rfl, rfl⟩)
                all_goals (go_ret; exact ⟨by first | rfl | exact ret_b (by have := HJ.out; simp; omega) | exact ret_b (by have := HJ.out; simp at *; omega), below_drewN HB.out _⟩)
            | false =>
              cases b4 with
              | true =>
                rcases FC.out (.inr rfl) with hj | ⟨hj1, hj2⟩
                · have HJ : Hid (j < n' ∨ i ≤ m') := Lib.hid (.inl hj)
                  have U1 : decide ((j : Int) < (n' : Int)) = true := decide_eq_true (by omega)
                  clear hj FC
                  go_wp2_with (go_at_call 11; refine (num_any _ _).mono ?_; rintro e w4 ⟨rfl, rfl⟩)
                  go_quiet (first | (go_at_call 17; with_reducible exact Calls.quiet_of (HQ1.out _ ⟨below_drewN HB.out _⟩)) | (go_at_call 17; with_reducible exact Calls.quiet_of (HQ2.out _ ⟨below_drewN HB.out _⟩)))
                  go_wp2_with (go_at_call 11; refine (num_any _ _).mono ?_; rintro e w4 ⟨rfl, rfl⟩)
                  all_goals (go_ret; exact ⟨by first | rfl | exact ret_b (by have := HJ.out; simp; omega) | exact ret_b (by have := HJ.out; simp at *; omega), below_drewN HB.out _⟩)
                · have HJ : Hid (j < n' ∨ i ≤ m') := Lib.hid (.inr hj2)
                  have U1 : decide ((j : Int) < (n' : Int)) = false := decide_eq_false (by omega)
                  have U2 : ((j : Int) == (n' : Int)) = true := by rw [beq_iff_eq]; omega
                  have U3 : decide ((i : Int) ≤ (m' : Int)) = true := decide_eq_true (by omega)
                  clear hj1 hj2 FC
                  go_wp2_with (go_at_call 11; refine (num_any _ _).mono ?_; rintro e w4 ⟨rfl, rfl⟩)
                  go_quiet (first | (go_at_call 17; with_reducible exact Calls.quiet_of (HQ1.out _ ⟨below_drewN HB.out _⟩)) | (go_at_call 17; with_reducible exact Calls.quiet_of (HQ2.out _ ⟨below_drewN HB.out _⟩)))
                  go_wp2_with (go_at_call 11; refine (num_any _ _).mono ?_; rintro e w4 ⟨rfl, rfl⟩)
                  all_goals (go_ret; exact ⟨by first | rfl | exact ret_b (by have := HJ.out; simp; omega) | exact ret_b (by have := HJ.out; simp at *; omega), below_drewN HB.out _⟩)
              | false =>
                clear FC
                go_wp2_with (go_at_call 11; refine (num_any _ _).mono ?_; rintro e w4 ⟨rfl, rfl⟩)
                go_quiet (first | (go_at_call 17; with_reducible exact Calls.quiet_of (HQ1.out _ ⟨below_drewN HB.out _⟩)) | (go_at_call 17; with_reducible exact Calls.quiet_of (HQ2.out _ ⟨below_drewN HB.out _⟩)))
                go_wp2_with (go_at_call 11; refine (num_any _ _).mono ?_; rintro e w4 ⟨rfl, rfl⟩)
                all_goals (go_ret; exact ⟨by first | rfl | exact ret_b (by have := HJ.out; simp; omega) | exact ret_b (by have := HJ.out; simp at *; omega), below_drewN HB.out _⟩)
    · subst h1 h2 h3
      clear HV hv0
      by_cases g1 : m < 0
      · have T1 : decide (m < 0) = true := decide_eq_true g1
        clear g1
        go_wp2_with (go_at_call 11; refine (num_any _ _).mono ?_; rintro e w4 ⟨rfl, rfl⟩)
        go_ret
        exact ⟨rfl, HB.out⟩
      · by_cases g2 : n ≤ m
        · have T1 : decide (m < 0) = false := decide_eq_false g1
          have T2 : decide (n ≤ m) = true := decide_eq_true g2
          clear g1 g2
          go_wp2_with (go_at_call 11; refine (num_any _ _).mono ?_; rintro e w4 ⟨rfl, rfl⟩)
          go_ret
          exact ⟨rfl, HB.out⟩
        · by_cases g3 : (P.length : Int) ≤ n
          · have T1 : decide (m < 0) = false := decide_eq_false g1
            have T2 : decide (n ≤ m) = false := decide_eq_false g2
            have T3 : decide ((P.length : Int) ≤ n) = true := decide_eq_true g3
            clear g1 g2 g3
            go_wp2_with (go_at_call 11; refine (num_any _ _).mono ?_; rintro e w4 ⟨rfl, rfl⟩)
            go_ret
            exact ⟨rfl, HB.out⟩
          · obtain ⟨m', rfl⟩ : ∃ k : Nat, m = k := ⟨m.toNat, by omega⟩
            obtain ⟨n', rfl⟩ : ∃ k : Nat, n = k := ⟨n.toNat, by omega⟩
            have hmn : m' < n' := by omega
            have hnl : n' < P.length := by omega
            obtain ⟨ad, Bm, cm, e1, hxm, hcm, hrm⟩ := at_list HR.out m' (by omega)
            obtain ⟨ad2, Bn, cn, e2, hxn, hcn, hrn⟩ := at_list HR.out n' hnl
            have e3 := Option.some.inj (e1.symm.trans e2)
            subst e3
            cases e1
            clear e2
            have FC := Lib.hid (HF.out m' n' hmn hnl)
            have T1 : decide ((m' : Int) < 0) = false := decide_eq_false (by omega)
            have T2 : decide ((n' : Int) ≤ (m' : Int)) = false := decide_eq_false (by omega)
            have T3 : decide ((P.length : Int) ≤ (n' : Int)) = false := decide_eq_false (by omega)
            have hm2 : m' < P.length := by omega
            have LM := Lib.hid (HS.out _ (nth_mem [] P m' hm2))
            have LN := Lib.hid (HS.out _ (nth_mem [] P n' hnl))
            have HQ1 : Hid (∀ w0 : World, Aside0 (Below w.heap.size w w0) → Calls Tryd.prog 17 #[.slice Bm (lx P m').length cm, .slice Bn (lx P n').length cn] w0 fun e w' => e = .returned (.bool (stB (lx P m') (lx P n'))) ∧ ∃ k, w' = w0.drewN k) := Lib.hid fun w0 h => begins_q _ _ _ _ _ _ w0 (Kd.C_below hrm h.out) (Kd.C_below hrn h.out) hcn LM.out
            have HQ2 : Hid (∀ w0 : World, Aside0 (Below w.heap.size w w0) → Calls Tryd.prog 17 #[.slice Bn (lx P n').length cn, .slice Bm (lx P m').length cm] w0 fun e w' => e = .returned (.bool (stB (lx P n') (lx P m'))) ∧ ∃ k, w' = w0.drewN k) := Lib.hid fun w0 h => begins_q _ _ _ _ _ _ w0 (Kd.C_below hrn h.out) (Kd.C_below hrm h.out) hcm LN.out
            have hxm1 := cell_stay HB.out hxm
            have hxn1 := cell_stay HB.out hxn
            clear hrm hrn hcm hcn g1 g2 g3 LM LN
            unfold cl at FC
            generalize stB (lx P m') (lx P n') = b3 at *
            generalize stB (lx P n') (lx P m') = b4 at *
            generalize lx P m' = xm at *
            generalize lx P n' = xn at *
            cases b3 with
            | true =>
              rcases FC.out (.inl rfl) with hj | ⟨hj1, hj2⟩
              · have HJ : Hid (j < n' ∨ i ≤ m') := Lib.hid (.inl hj)
                have U1 : decide ((j : Int) < (n' : Int)) = true := decide_eq_true (by omega)
                clear hj FC
                go_wp2_with (go_at_call 11; refine (num_any _ _).mono ?_; rintro e w4 ⟨rfl, rfl⟩)
                go_quiet ((go_at_call 17; with_reducible exact Calls.quiet_of (HQ1.out _ ⟨below_drewN HB.out _⟩)))
                go_wp2_with (go_at_call 11; refine (num_any _ _).mono ?_; rintro e w4 ⟨rfl, rfl⟩)
                all_goals (go_ret; exact ⟨by first | rfl | exact ret_b (by have := HJ.out; simp; omega) | exact ret_b (by have := HJ.out; simp at *; omega), below_drewN HB.out _⟩)
              · have HJ : Hid (j < n' ∨ i ≤ m') := Lib.hid (.inr hj2)
                have U1 : decide ((j : Int) < (n' : Int)) = false := decide_eq_false (by omega)
                have U2 : ((j : Int) == (n' : Int)) = true := by rw [beq_iff_eq]; omega
                have U3 : decide ((i : Int) ≤ (m' : Int)) = true := decide_eq_true (by omega)
                clear hj1 hj2 FC
                go_wp2_with (go_at_call 11; refine (num_any _ _).mono ?_; rintro e w4 ⟨rfl, rfl⟩)
                go_quiet ((go_at_call 17; with_reducible exact Calls.quiet_of (HQ1.out _ ⟨below_drewN HB.out _⟩)))
                go_wp2_with (go_at_call 11; refine (num_any _ _).mono ?_; rintro e w4 ⟨rfl, rfl⟩)
                all_goals (go_ret; exact ⟨by first | rfl | exact ret_b (by have := HJ.out; simp; omega) | exact ret_b (by have := HJ.out; simp at *; omega), below_drewN HB.out _⟩)
            | false =>
              cases b4 with
              | true =>
                rcases FC.out (.inr rfl) with hj | ⟨hj1, hj2⟩
                · have HJ : Hid (j < n' ∨ i ≤ m') := Lib.hid (.inl hj)
                  have U1 : decide ((j : Int) < (n' : Int)) = true := decide_eq_true (by omega)
                  clear hj FC
                  go_wp2_with (go_at_call 11; refine (num_any _ _).mono ?_; rintro e w4 ⟨rfl, rfl⟩)
                  go_quiet (first | (go_at_call 17; with_reducible exact Calls.quiet_of (HQ1.out _ ⟨below_drewN HB.out _⟩)) | (go_at_call 17; with_reducible exact Calls.quiet_of (HQ2.out _ ⟨below_drewN HB.out _⟩)))
                  go_wp2_with (go_at_call 11; refine (num_any _ _).mono ?_; rintro e w4 ⟨rfl, rfl⟩)
                  all_goals (go_ret; exact ⟨by first | rfl | exact ret_b (by have := HJ.out; simp; omega) | exact ret_b (by have := HJ.out; simp at *; omega), below_drewN HB.out _⟩)
                · have HJ : Hid (j < n' ∨ i ≤ m') := Lib.hid (.inr hj2)
                  have U1 : decide ((j : Int) < (n' : Int)) = false := decide_eq_false (by omega)
                  have U2 : ((j : Int) == (n' : Int)) = true := by rw [beq_iff_eq]; omega
                  have U3 : decide ((i : Int) ≤ (m' : Int)) = true := decide_eq_true (by omega)
                  clear hj1 hj2 FC
                  go_wp2_with (go_at_call 11; refine (num_any _ _).mono ?_; rintro e w4 ⟨rfl, rfl⟩)
                  go_quiet (first | (go_at_call 17; with_reducible exact Calls.quiet_of (HQ1.out _ ⟨below_drewN HB.out _⟩)) | (go_at_call 17; with_reducible exact Calls.quiet_of (HQ2.out _ ⟨below_drewN HB.out _⟩)))
                  go_wp2_with (go_at_call 11; refine (num_any _ _).mono ?_; rintro e w4 ⟨rfl, rfl⟩)
                  all_goals (go_ret; exact ⟨by first | rfl | exact ret_b (by have := HJ.out; simp; omega) | exact ret_b (by have := HJ.out; simp at *; omega), below_drewN HB.out _⟩)
              | false =>
                clear FC
                go_wp2_with (go_at_call 11; refine (num_any _ _).mono ?_; rintro e w4 ⟨rfl, rfl⟩)
                go_quiet (first | (go_at_call 17; with_reducible exact Calls.quiet_of (HQ1.out _ ⟨below_drewN HB.out _⟩)) | (go_at_call 17; with_reducible exact Calls.quiet_of (HQ2.out _ ⟨below_drewN HB.out _⟩)))
                go_wp2_with (go_at_call 11; refine (num_any _ _).mono ?_; rintro e w4 ⟨rfl, rfl⟩)
                all_goals (go_ret; exact ⟨by first | rfl | exact ret_b (by have := HJ.out; simp; omega) | exact ret_b (by have := HJ.out; simp at *; omega), below_drewN HB.out _⟩)
theorem laid_met (os : Os) : laidMet Tryd.prog Rows.namesClashShownRow.laid ((Tab.laidWorld os).forCall (fun _ _ => 0) ⟨#[], #[.slice none 0 0, .int .i64 0, .int .i64 0], []⟩).memory :=
  laidMet_of_run' 8 (by kernel_rfl) (by kernel_rfl)
theorem reads (os : Os) {H : Type} (enc : TypeId × Value → H) : ∃ places, DataW.whole enc Tryd.prog ((Tab.laidWorld os).forCall (fun _ _ => 0) ⟨#[], #[.slice none 0 0, .int .i64 0, .int .i64 0], []⟩).memory Tryd.f7.params.toList Rows.namesClashShownSpec.vars false (#[.slice none 0 0, .int .i64 0, .int .i64 0] : Array Value).toList 8 = some ([.nil, .lit (.int .i64 0), .lit (.int .i64 0)], [], places) :=
  ⟨[], by kernel_rfl⟩
set_option maxRecDepth 100000 in
theorem lifted (os : Os) (started : os.Started) (H : Type) (enc : TypeId × Value → H) (F : Stop.Interp) :
    ReturnsInHanded {} Tryd.checked os 7 .any ((OpenSpec.ofChange Rows.namesClashShownSpec).preRow enc Tryd.prog Tryd.f7 Rows.namesClashShownRow.domain false Rows.namesClashShownRow.laid) (((OpenSpec.ofChange Rows.namesClashShownSpec).at F).post enc Tryd.prog Tryd.f7 false true false false) := by
  obtain ⟨places, hx⟩ := reads os enc
  refine returnsInHanded_of_row (C := Tryd.checked) (s := OpenSpec.ofChange Rows.namesClashShownSpec) Tab.own started (by kernel_rfl) Tryd.func7
    (witness_row_at (enc := enc) (C := Tryd.checked) false (Tab.laidWorld os) #[.slice none 0 0, .int .i64 0, .int .i64 0] rfl (by kernel_rfl) (by kernel_rfl) (by kernel_rfl)
      (OpenSpec.preRow_of_cond 8 hx (by kernel_rfl) (fun k hk => by cases hk) (by kernel_rfl) (laid_met os))) ?_
  intro W base args ds gs before hval hW _ hcond hzz hL hsh _
  refine Rw.post_law (tb := 4) (s := Rows.namesClashShownSpec) Tab.laidOut (by kernel_rfl) rfl Tryd.underlying4 rfl (fun ds hds => ?_) hW ?_
  · rw [Tryd.params7] at hds
    match ds, hds with
    | [d0, d1, d2], _ => rfl
  obtain ⟨p, hA, hz, rfl⟩ := Rw.args_of (s := OpenSpec.ofChange Rows.namesClashShownSpec) rfl hW hzz

  have hm := Tab.maxOk hsh
  clear hcond hzz hW hL hsh
  rw [Tryd.params7] at hA hz hval
  obtain ⟨v0, vs0, ds0, p0, xs, hargs, ⟨A0, c0, hK0, hc0, hr0⟩, ⟨hl0, hs0⟩, hA1, hz1⟩ := Rw.open_arg (Rw.opens_slice Tryd.underlying37 (by kernel_rfl) (Rw.opens_slice Tryd.underlying22 (by kernel_rfl) (Rw.opens_string Tryd.underlying9))) hA hz
  obtain ⟨v1, vs1, ds1, p1, ys, rfl, hK1, hG1, hA2, hz2⟩ := Rw.open_arg (Rw.opens_int Tryd.underlying3) hA1 hz1
  obtain ⟨v2, vs2, ds2, p2, zs, rfl, hK2, hG2, hA3, hz3⟩ := Rw.open_arg (Rw.opens_int Tryd.underlying3) hA2 hz2
  obtain rfl := Rw.open_end (args := args) hA3
  obtain rfl : args = #[v0, v1, v2] := by cases args; simp_all
  obtain ⟨a0, n0, d0, rfl⟩ := okWide_slice Tryd.underlying37 (hval 0 37 _ rfl rfl)
  have e0 : [Value.slice a0 n0 d0] = [Value.slice A0 xs.length c0] := hK0
  injection e0 with e0
  injection e0 with e0a e0b e0c
  subst e0a e0b e0c
  have hb0 : Tryd.prog.bytesOf 22 = 24 := by kernel_rfl
  have hq0 : xs.length ≤ 5864062014804 := by rw [hb0] at hl0; unfold reachBytes at hl0; omega
  obtain ⟨n1, rfl, _⟩ := okWide_int Tryd.underlying3 (hval 1 3 _ rfl rfl)
  obtain rfl : n1 = ys := by have h : [Value.int .i64 n1] = [Value.int .i64 ys] := hK1; injection h with h; injection h
  obtain ⟨n2, rfl, _⟩ := okWide_int Tryd.underlying3 (hval 2 3 _ rfl rfl)
  obtain rfl : n2 = zs := by have h : [Value.int .i64 n2] = [Value.int .i64 zs] := hK2; injection h with h; injection h
  exact law_any _ _ _ _ _ W hr0 hc0 hq0 hs0 hG1 hG2 hm
theorem said : Rows.NamesClashShownSaid :=
  OpenClaim.holds_of_cond 7 Tryd.f7 rfl rfl rfl rfl rfl rfl rfl ⟨rfl, rfl, rfl, rfl, rfl⟩ rfl rfl rfl rfl rfl (by kernel_rfl) Tryd.func7 (by kernel_rfl)
    (of_decide_eq_true (by kernel_rfl)) (by unfold Func.isWrapper; first | (rw [if_pos (by decide +kernel)]; kernel_rfl) | (rw [if_neg (by decide +kernel)]; exact ⟨rfl, rfl⟩))
    (fun os started H enc _ F => by rw [OpenClaim.pre_eq_preRow]; exact lifted os started H enc F)
theorem plain (f : FuncId) (fn : Func) (hf : Tryd.pinned.checked.prog.funcNamed "torrent/torrentlaw5.NamesClashShown" = some f) (hfn : Tryd.pinned.checked.prog.funcs[f]? = some fn) :
    false = Tryd.pinned.checked.prog.looks [] ∧ ∀ (j : Nat) t, fn.params[j]? = some t → Tryd.pinned.checked.prog.wantsStandIn t = false := by
  obtain rfl : f = 7 := Option.some.inj ((show Tryd.prog.funcNamed "torrent/torrentlaw5.NamesClashShown" = some 7 by kernel_rfl).symm.trans hf) |>.symm
  obtain rfl : fn = Tryd.f7 := (Option.some.inj (Tryd.func7.symm.trans hfn)).symm
  refine ⟨by kernel_rfl, fun j t ht => ?_⟩
  have hall : Tryd.f7.params.toList.all (fun t => !Tryd.pinned.checked.prog.wantsStandIn t) = true := by kernel_rfl
  have := List.all_eq_true.1 hall t (by simpa using Array.mem_of_getElem? ht)
  simpa using this
/-- The statement. -/
theorem proved : Rows.NamesClashShownCardSaid :=
  Claim7.holds_tied_plain_at .later [] _ _ _ _ said (fun _ h => by cases h) (by kernel_rfl) (fun _ h => by cases h) namesClashShown_row_tie rfl ⟨rfl, rfl⟩ (by kernel_rfl) rfl plain (by kernel_rfl)
#print axioms proved
end Go.Proofs.YtgbeppbdebibiaaDoor.LawNamesClashShown
