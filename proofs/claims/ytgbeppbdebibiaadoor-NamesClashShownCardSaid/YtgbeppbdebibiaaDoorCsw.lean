/- The walk of torrentlaw5.NamesClashShown. -/
import Derived.Test.YtgbeppbdebibiaaDoorAw
import Derived.Test.YtgbeppbdebibiaaDoorNo
import Derived.Test.YtgbeppbdebibiaaDoorPc
import Derived.Test.YtgbeppbdebibiaaDoorNk
set_option linter.unusedVariables false
set_option linter.unusedSimpArgs false
namespace Go.Proofs.YtgbeppbdebibiaaDoor.LawNamesClashShown
open Go.RowKit Go.Proofs.YtgbeppbdebibiaaDoorW.PrintWords
open Go.Proofs.YtgbeppbdebibiaaDoor.Wd Go.Proofs.YtgbeppbdebibiaaDoor.Nm
set_option maxHeartbeats 2000000 in
set_option maxRecDepth 100000 in
theorem law_any (A0 : Option Addr) (c0 : Nat) (P : List (List ByteArray)) (m n : Int) (w : World) (hr : KL.C w A0 P.length P) (hc : P.length ≤ c0) (hl : P.length ≤ 5864062014804) (hs : Lens P) (hz : Shorts P) (hmw : (Lit.int .i64 m).wf = true) (hnw : (Lit.int .i64 n).wf = true) (hm : MaxOk w) :
    Calls Tryd.prog 7 #[.slice A0 P.length c0, .int .i64 m, .int .i64 n] w fun e w' => e = .returned (.bool true) ∧ Below w.heap.size w w' := by
  have HW := Lib.hid (awake_any w hm)
  have HR := Aside0.mk hr
  have HS := Lib.hid hs
  have HCL : Hid (∀ w, KL.C w A0 P.length P → Calls Tryd.prog 18 #[.slice A0 P.length c0] w fun e w' => e = .returned (ClashV P) ∧ Below w.heap.size w w') := Lib.hid fun w h => clash_any A0 c0 P w h hl hs hz
  have hsay := clash_says P
  unfold ClashV at HCL
  clear hr hs hz hm hmw hnw hc
  rcases hsay with ⟨hv, hf⟩ | ⟨i, j, hv, hij, hij2, hcl, hf⟩
  · rw [hv] at HCL
    have HF : Hid (∀ m n, m < n → n < P.length → ¬ cl (lx P m) (lx P n)) := Lib.hid fun m n h1 h2 => hf m n h1 h2 (by omega)
    clear hf hv
    go_enter Tryd.func7, Tryd.ntmps7
    go_wp2_with fail
    go_at_call 9
    refine HW.out.mono ?_
    rintro e w1 ⟨rfl, hb1⟩
    go_wp2_with fail
    go_at_call 18
    refine (HCL.out _ (Kd.C_below HR.out hb1)).mono ?_
    rintro e w2 ⟨rfl, hb2⟩
    have HB := Aside0.mk (below_step hb1 hb2)
    clear hb1 hb2 HCL HW
    go_wp2_with fail
    go_at_call 11
    refine (num_any _ _).mono ?_
    rintro e w3 ⟨rfl, rfl⟩
    by_cases g1 : m < 0
    · have T1 : decide (m < 0) = true := decide_eq_true g1
      clear g1
      go_wp2_with (go_at_call 11; refine (num_any _ _).mono ?_; rintro e w4 ⟨rfl, rfl⟩)
      go_ret
      exact ⟨rfl, HB.out⟩
    · by_cases g2 : n ≤ m
      · have T1 : decide (m < 0) = false := decide_eq_false g1
        have T2 : decide (n ≤ m) = true := decide_eq_true g2
        clear g1 g2
        go_wp2_with (go_at_call 11; refine (num_any _ _).mono ?_; rintro e w4 ⟨rfl, rfl⟩)
        go_ret
        exact ⟨rfl, HB.out⟩
      · by_cases g3 : (P.length : Int) ≤ n
        · have T1 : decide (m < 0) = false := decide_eq_false g1
          have T2 : decide (n ≤ m) = false := decide_eq_false g2
          have T3 : decide ((P.length : Int) ≤ n) = true := decide_eq_true g3
          clear g1 g2 g3
          go_wp2_with (go_at_call 11; refine (num_any _ _).mono ?_; rintro e w4 ⟨rfl, rfl⟩)
          go_ret
          exact ⟨rfl, HB.out⟩
        · obtain ⟨m', rfl⟩ : ∃ k : Nat, m = k := ⟨m.toNat, by omega⟩
          obtain ⟨n', rfl⟩ : ∃ k : Nat, n = k := ⟨n.toNat, by omega⟩
          have hmn : m' < n' := by omega
          have hnl : n' < P.length := by omega
          obtain ⟨ad, Bm, cm, e1, hxm, hcm, hrm⟩ := at_list HR.out m' (by omega)
          obtain ⟨ad2, Bn, cn, e2, hxn, hcn, hrn⟩ := at_list HR.out n' hnl
          have e3 := Option.some.inj (e1.symm.trans e2)
          subst e3
          cases e1
          clear e2
          have FC := Lib.hid (HF.out m' n' hmn hnl)
          have T1 : decide ((m' : Int) < 0) = false := decide_eq_false (by omega)
          have T2 : decide ((n' : Int) ≤ (m' : Int)) = false := decide_eq_false (by omega)
          have T3 : decide ((P.length : Int) ≤ (n' : Int)) = false := decide_eq_false (by omega)
          have hm2 : m' < P.length := by omega
          have LM := Lib.hid (HS.out _ (nth_mem [] P m' hm2))
          have LN := Lib.hid (HS.out _ (nth_mem [] P n' hnl))
          have HQ1 : Hid (∀ w0 : World, Aside0 (Below w.heap.size w w0) → Calls Tryd.prog 17 #[.slice Bm (lx P m').length cm, .slice Bn (lx P n').length cn] w0 fun e w' => e = .returned (.bool (stB (lx P m') (lx P n'))) ∧ ∃ k, w' = w0.drewN k) := Lib.hid fun w0 h => begins_q _ _ _ _ _ _ w0 (Kd.C_below hrm h.out) (Kd.C_below hrn h.out) hcn LM.out
          have HQ2 : Hid (∀ w0 : World, Aside0 (Below w.heap.size w w0) → Calls Tryd.prog 17 #[.slice Bn (lx P n').length cn, .slice Bm (lx P m').length cm] w0 fun e w' => e = .returned (.bool (stB (lx P n') (lx P m'))) ∧ ∃ k, w' = w0.drewN k) := Lib.hid fun w0 h => begins_q _ _ _ _ _ _ w0 (Kd.C_below hrn h.out) (Kd.C_below hrm h.out) hcm LN.out
          have hxm1 := cell_stay HB.out hxm
          have hxn1 := cell_stay HB.out hxn
          clear hrm hrn hcm hcn g1 g2 g3 LM LN
          unfold cl at FC
          generalize stB (lx P m') (lx P n') = b3 at *
          generalize stB (lx P n') (lx P m') = b4 at *
          generalize lx P m' = xm at *
          generalize lx P n' = xn at *
          cases b3 with
          | true =>
            exact absurd (.inl rfl) FC.out
          | false =>
            cases b4 with
            | true =>
              exact absurd (.inr rfl) FC.out
            | false =>
              clear FC
              go_wp2_with (go_at_call 11; refine (num_any _ _).mono ?_; rintro e w4 ⟨rfl, rfl⟩)
              go_quiet (first | (go_at_call 17; with_reducible exact Calls.quiet_of (HQ1.out _ ⟨below_drewN HB.out _⟩)) | (go_at_call 17; with_reducible exact Calls.quiet_of (HQ2.out _ ⟨below_drewN HB.out _⟩)))
              go_wp2_with (go_at_call 11; refine (num_any _ _).mono ?_; rintro e w4 ⟨rfl, rfl⟩)
              all_goals (go_ret; exact ⟨by first | rfl | exact ret_b (by have := HJ.out; simp; omega) | exact ret_b (by have := HJ.out; simp at *; omega), below_drewN HB.out _⟩)
  · rw [hv] at HCL
    have HF : Hid (∀ m n, m < n → n < P.length → cl (lx P m) (lx P n) → j < n ∨ (j = n ∧ i ≤ m)) := Lib.hid fun m n h1 h2 => hf m n h1 h2 (by omega)
    clear hf hv
    go_enter Tryd.func7, Tryd.ntmps7
    go_wp2_with fail
    go_at_call 9
    refine HW.out.mono ?_
    rintro e w1 ⟨rfl, hb1⟩
    go_wp2_with fail
    go_at_call 18
    refine (HCL.out _ (Kd.C_below HR.out hb1)).mono ?_
    rintro e w2 ⟨rfl, hb2⟩
    have HB := Aside0.mk (below_step hb1 hb2)
    clear hb1 hb2 HCL HW
    obtain ⟨ai, Bi, ci, e1, hxi, hci, hri⟩ := at_list HR.out i (by omega)
    obtain ⟨aj, Bj, cj, e2, hxj, hcj, hrj⟩ := at_list HR.out j hij2
    have e3 := Option.some.inj (e1.symm.trans e2)
    subst e3
    subst e1
    clear e2
    have P1 : decide ((i : Int) < 0) = false := decide_eq_false (by omega)
    have P2 : decide ((j : Int) ≤ (i : Int)) = false := decide_eq_false (by omega)
    have P3 : decide ((P.length : Int) ≤ (j : Int)) = false := decide_eq_false (by omega)
    have hi2 : i < P.length := by omega
    have LI := Lib.hid (HS.out _ (nth_mem [] P i hi2))
    have LJ := Lib.hid (HS.out _ (nth_mem [] P j hij2))
    have HI1 : Hid (∀ w0 : World, Aside0 (Below w.heap.size w w0) → Calls Tryd.prog 17 #[.slice Bi (lx P i).length ci, .slice Bj (lx P j).length cj] w0 fun e w' => e = .returned (.bool (stB (lx P i) (lx P j))) ∧ ∃ k, w' = w0.drewN k) := Lib.hid fun w0 h => begins_q _ _ _ _ _ _ w0 (Kd.C_below hri h.out) (Kd.C_below hrj h.out) hcj LI.out
    have HI2 : Hid (∀ w0 : World, Aside0 (Below w.heap.size w w0) → Calls Tryd.prog 17 #[.slice Bj (lx P j).length cj, .slice Bi (lx P i).length ci] w0 fun e w' => e = .returned (.bool (stB (lx P j) (lx P i))) ∧ ∃ k, w' = w0.drewN k) := Lib.hid fun w0 h => begins_q _ _ _ _ _ _ w0 (Kd.C_below hrj h.out) (Kd.C_below hri h.out) hci LJ.out
    have hxi1 := cell_stay HB.out hxi
    have hxj1 := cell_stay HB.out hxj
    clear hri hrj hci hcj LI LJ
    have HV : Hid ((stB (lx P i) (lx P j) = true ∧ stB (lx P j) (lx P i) = true ∧ bothV (lx P i) (lx P j) = 56) ∨ (stB (lx P i) (lx P j) = true ∧ stB (lx P j) (lx P i) = false ∧ bothV (lx P i) (lx P j) = 57) ∨ (stB (lx P i) (lx P j) = false ∧ stB (lx P j) (lx P i) = true ∧ bothV (lx P i) (lx P j) = 57)) := Lib.hid (by
      unfold cl at hcl
      unfold bothV
      revert hcl
      generalize stB (lx P i) (lx P j) = b1
      generalize stB (lx P j) (lx P i) = b2
      cases b1 <;> cases b2 <;> simp)
    have hv0 : (bothV (lx P i) (lx P j) != 0) = true := by rw [bne_iff_ne]; intro e; exact (bothV_cl _ _).1 e hcl
    clear hcl
    generalize bothV (lx P i) (lx P j) = v at *
    generalize stB (lx P i) (lx P j) = b1 at *
    generalize stB (lx P j) (lx P i) = b2 at *
    generalize lx P i = xi at *
    generalize lx P j = xj at *
    go_wp2_with (go_at_call 11; refine (num_any _ _).mono ?_; rintro e w4 ⟨rfl, rfl⟩)
    go_quiet ((go_at_call 17; exact Calls.quiet_of (HI1.out _ ⟨below_drewN HB.out _⟩)))
    replace HB := Aside0.mk (below_drewN HB.out nq)
    clear hxi1 hxj1
    generalize w2.drewN nq = w3 at *
    have hxi1 := cell_stay HB.out hxi
    have hxj1 := cell_stay HB.out hxj
    go_wp2_with fail
    go_quiet ((go_at_call 17; exact Calls.quiet_of (HI2.out _ ⟨below_drewN HB.out _⟩)))
    replace HB := Aside0.mk (below_drewN HB.out nq)
    clear hxi1 hxj1 hxi hxj HI1 HI2
    generalize w3.drewN nq = w4 at *
    rcases HV.out with ⟨h1, h2, h3⟩ | ⟨h1, h2, h3⟩ | ⟨h1, h2, h3⟩
    · subst h1 h2 h3
      clear HV hv0
      by_cases g1 : m < 0
      · have T1 : decide (m < 0) = true := decide_eq_true g1
        clear g1
        go_wp2_with (go_at_call 11; refine (num_any _ _).mono ?_; rintro e w4 ⟨rfl, rfl⟩)
        go_ret
        exact ⟨rfl, HB.out⟩
      · by_cases g2 : n ≤ m
        · have T1 : decide (m < 0) = false := decide_eq_false g1
          have T2 : decide (n ≤ m) = true := decide_eq_true g2
          clear g1 g2
          go_wp2_with (go_at_call 11; refine (num_any _ _).mono ?_; rintro e w4 ⟨rfl, rfl⟩)
          go_ret
          exact ⟨rfl, HB.out⟩
        · by_cases g3 : (P.length : Int) ≤ n
          · have T1 : decide (m < 0) = false := decide_eq_false g1
            have T2 : decide (n ≤ m) = false := decide_eq_false g2
            have T3 : decide ((P.length : Int) ≤ n) = true := decide_eq_true g3
            clear g1 g2 g3
            go_wp2_with (go_at_call 11; refine (num_any _ _).mono ?_; rintro e w4 ⟨rfl, rfl⟩)
            go_ret
            exact ⟨rfl, HB.out⟩
          · obtain ⟨m', rfl⟩ : ∃ k : Nat, m = k := ⟨m.toNat, by omega⟩
            obtain ⟨n', rfl⟩ : ∃ k : Nat, n = k := ⟨n.toNat, by omega⟩
            have hmn : m' < n' := by omega
            have hnl : n' < P.length := by omega
            obtain ⟨ad, Bm, cm, e1, hxm, hcm, hrm⟩ := at_list HR.out m' (by omega)
            obtain ⟨ad2, Bn, cn, e2, hxn, hcn, hrn⟩ := at_list HR.out n' hnl
            have e3 := Option.some.inj (e1.symm.trans e2)
            subst e3
            cases e1
            clear e2
            have FC := Lib.hid (HF.out m' n' hmn hnl)
            have T1 : decide ((m' : Int) < 0) = false := decide_eq_false (by omega)
            have T2 : decide ((n' : Int) ≤ (m' : Int)) = false := decide_eq_false (by omega)
            have T3 : decide ((P.length : Int) ≤ (n' : Int)) = false := decide_eq_false (by omega)
            have hm2 : m' < P.length := by omega
            have LM := Lib.hid (HS.out _ (nth_mem [] P m' hm2))
            have LN := Lib.hid (HS.out _ (nth_mem [] P n' hnl))
            have HQ1 : Hid (∀ w0 : World, Aside0 (Below w.heap.size w w0) → Calls Tryd.prog 17 #[.slice Bm (lx P m').length cm, .slice Bn (lx P n').length cn] w0 fun e w' => e = .returned (.bool (stB (lx P m') (lx P n'))) ∧ ∃ k, w' = w0.drewN k) := Lib.hid fun w0 h => begins_q _ _ _ _ _ _ w0 (Kd.C_below hrm h.out) (Kd.C_below hrn h.out) hcn LM.out
            have HQ2 : Hid (∀ w0 : World, Aside0 (Below w.heap.size w w0) → Calls Tryd.prog 17 #[.slice Bn (lx P n').length cn, .slice Bm (lx P m').length cm] w0 fun e w' => e = .returned (.bool (stB (lx P n') (lx P m'))) ∧ ∃ k, w' = w0.drewN k) := Lib.hid fun w0 h => begins_q _ _ _ _ _ _ w0 (Kd.C_below hrn h.out) (Kd.C_below hrm h.out) hcm LN.out
            have hxm1 := cell_stay HB.out hxm
            have hxn1 := cell_stay HB.out hxn
            clear hrm hrn hcm hcn g1 g2 g3 LM LN
            unfold cl at FC
            generalize stB (lx P m') (lx P n') = b3 at *
            generalize stB (lx P n') (lx P m') = b4 at *
            generalize lx P m' = xm at *
            generalize lx P n' = xn at *
            cases b3 with
            | true =>
              rcases FC.out (.inl rfl) with hj | ⟨hj1, hj2⟩
              · have HJ : Hid (j < n' ∨ i ≤ m') := Lib.hid (.inl hj)
                have U1 : decide ((j : Int) < (n' : Int)) = true := decide_eq_true (by omega)
                clear hj FC
                go_wp2_with (go_at_call 11; refine (num_any _ _).mono ?_; rintro e w4 ⟨rfl, rfl⟩)
                go_quiet ((go_at_call 17; with_reducible exact Calls.quiet_of (HQ1.out _ ⟨below_drewN HB.out _⟩)))
                go_wp2_with (go_at_call 11; refine (num_any _ _).mono ?_; rintro e w4 ⟨rfl, rfl⟩)
                all_goals (go_ret; exact ⟨by first | rfl | exact ret_b (by have := HJ.out; simp; omega) | exact ret_b (by have := HJ.out; simp at *; omega), below_drewN HB.out _⟩)
              · have HJ : Hid (j < n' ∨ i ≤ m') := Lib.hid (.inr hj2)
                have U1 : decide ((j : Int) < (n' : Int)) = false := decide_eq_false (by omega)
                have U2 : ((j : Int) == (n' : Int)) = true := by rw [beq_iff_eq]; omega
                have U3 : decide ((i : Int) ≤ (m' : Int)) = true := decide_eq_true (by omega)
                clear hj1 hj2 FC
                go_wp2_with (go_at_call 11; refine (num_any _ _).mono ?_; rintro e w4 ⟨rfl, rfl⟩)
                go_quiet ((go_at_call 17; with_reducible exact Calls.quiet_of (HQ1.out _ ⟨below_drewN HB.out _⟩)))
                go_wp2_with (go_at_call 11; refine (num_any _ _).mono ?_; rintro e w4 ⟨rfl, rfl⟩)
                all_goals (go_ret; exact ⟨by first | rfl | exact ret_b (by have := HJ.out; simp; omega) | exact ret_b (by have := HJ.out; simp at *; omega), below_drewN HB.out _⟩)
            | false =>
              cases b4 with
              | true =>
                rcases FC.out (.inr rfl) with hj | ⟨hj1, hj2⟩
                · have HJ : Hid (j < n' ∨ i ≤ m') := Lib.hid (.inl hj)
                  have U1 : decide ((j : Int) < (n' : Int)) = true := decide_eq_true (by omega)
                  clear hj FC
                  go_wp2_with (go_at_call 11; refine (num_any _ _).mono ?_; rintro e w4 ⟨rfl, rfl⟩)
                  go_quiet (first | (go_at_call 17; with_reducible exact Calls.quiet_of (HQ1.out _ ⟨below_drewN HB.out _⟩)) | (go_at_call 17; with_reducible exact Calls.quiet_of (HQ2.out _ ⟨below_drewN HB.out _⟩)))
                  go_wp2_with (go_at_call 11; refine (num_any _ _).mono ?_; rintro e w4 ⟨rfl, rfl⟩)
                  all_goals (go_ret; exact ⟨by first | rfl | exact ret_b (by have := HJ.out; simp; omega) | exact ret_b (by have := HJ.out; simp at *; omega), below_drewN HB.out _⟩)
                · have HJ : Hid (j < n' ∨ i ≤ m') := Lib.hid (.inr hj2)
                  have U1 : decide ((j : Int) < (n' : Int)) = false := decide_eq_false (by omega)
                  have U2 : ((j : Int) == (n' : Int)) = true := by rw [beq_iff_eq]; omega
                  have U3 : decide ((i : Int) ≤ (m' : Int)) = true := decide_eq_true (by omega)
                  clear hj1 hj2 FC
                  go_wp2_with (go_at_call 11; refine (num_any _ _).mono ?_; rintro e w4 ⟨rfl, rfl⟩)
                  go_quiet (first | (go_at_call 17; with_reducible exact Calls.quiet_of (HQ1.out _ ⟨below_drewN HB.out _⟩)) | (go_at_call 17; with_reducible exact Calls.quiet_of (HQ2.out _ ⟨below_drewN HB.out _⟩)))
                  go_wp2_with (go_at_call 11; refine (num_any _ _).mono ?_; rintro e w4 ⟨rfl, rfl⟩)
                  all_goals (go_ret; exact ⟨by first | rfl | exact ret_b (by have := HJ.out; simp; omega) | exact ret_b (by have := HJ.out; simp at *; omega), below_drewN HB.out _⟩)
              | false =>
                clear FC
                go_wp2_with (go_at_call 11; refine (num_any _ _).mono ?_; rintro e w4 ⟨rfl, rfl⟩)
                go_quiet (first | (go_at_call 17; with_reducible exact Calls.quiet_of (HQ1.out _ ⟨below_drewN HB.out _⟩)) | (go_at_call 17; with_reducible exact Calls.quiet_of (HQ2.out _ ⟨below_drewN HB.out _⟩)))
                go_wp2_with (go_at_call 11; refine (num_any _ _).mono ?_; rintro e w4 ⟨rfl, rfl⟩)
                all_goals (go_ret; exact ⟨by first | rfl | exact ret_b (by have := HJ.out; simp; omega) | exact ret_b (by have := HJ.out; simp at *; omega), below_drewN HB.out _⟩)
    · subst h1 h2 h3
      clear HV hv0
      by_cases g1 : m < 0
      · have T1 : decide (m < 0) = true := decide_eq_true g1
        clear g1
        go_wp2_with (go_at_call 11; refine (num_any _ _).mono ?_; rintro e w4 ⟨rfl, rfl⟩)
        go_ret
        exact ⟨rfl, HB.out⟩
      · by_cases g2 : n ≤ m
        · have T1 : decide (m < 0) = false := decide_eq_false g1
          have T2 : decide (n ≤ m) = true := decide_eq_true g2
          clear g1 g2
          go_wp2_with (go_at_call 11; refine (num_any _ _).mono ?_; rintro e w4 ⟨rfl, rfl⟩)
          go_ret
          exact ⟨rfl, HB.out⟩
        · by_cases g3 : (P.length : Int) ≤ n
          · have T1 : decide (m < 0) = false := decide_eq_false g1
            have T2 : decide (n ≤ m) = false := decide_eq_false g2
            have T3 : decide ((P.length : Int) ≤ n) = true := decide_eq_true g3
            clear g1 g2 g3
            go_wp2_with (go_at_call 11; refine (num_any _ _).mono ?_; rintro e w4 ⟨rfl, rfl⟩)
            go_ret
            exact ⟨rfl, HB.out⟩
          · obtain ⟨m', rfl⟩ : ∃ k : Nat, m = k := ⟨m.toNat, by omega⟩
            obtain ⟨n', rfl⟩ : ∃ k : Nat, n = k := ⟨n.toNat, by omega⟩
            have hmn : m' < n' := by omega
            have hnl : n' < P.length := by omega
            obtain ⟨ad, Bm, cm, e1, hxm, hcm, hrm⟩ := at_list HR.out m' (by omega)
            obtain ⟨ad2, Bn, cn, e2, hxn, hcn, hrn⟩ := at_list HR.out n' hnl
            have e3 := Option.some.inj (e1.symm.trans e2)
            subst e3
            cases e1
            clear e2
            have FC := Lib.hid (HF.out m' n' hmn hnl)
            have T1 : decide ((m' : Int) < 0) = false := decide_eq_false (by omega)
            have T2 : decide ((n' : Int) ≤ (m' : Int)) = false := decide_eq_false (by omega)
            have T3 : decide ((P.length : Int) ≤ (n' : Int)) = false := decide_eq_false (by omega)
            have hm2 : m' < P.length := by omega
            have LM := Lib.hid (HS.out _ (nth_mem [] P m' hm2))
            have LN := Lib.hid (HS.out _ (nth_mem [] P n' hnl))
            have HQ1 : Hid (∀ w0 : World, Aside0 (Below w.heap.size w w0) → Calls Tryd.prog 17 #[.slice Bm (lx P m').length cm, .slice Bn (lx P n').length cn] w0 fun e w' => e = .returned (.bool (stB (lx P m') (lx P n'))) ∧ ∃ k, w' = w0.drewN k) := Lib.hid fun w0 h => begins_q _ _ _ _ _ _ w0 (Kd.C_below hrm h.out) (Kd.C_below hrn h.out) hcn LM.out
            have HQ2 : Hid (∀ w0 : World, Aside0 (Below w.heap.size w w0) → Calls Tryd.prog 17 #[.slice Bn (lx P n').length cn, .slice Bm (lx P m').length cm] w0 fun e w' => e = .returned (.bool (stB (lx P n') (lx P m'))) ∧ ∃ k, w' = w0.drewN k) := Lib.hid fun w0 h => begins_q _ _ _ _ _ _ w0 (Kd.C_below hrn h.out) (Kd.C_below hrm h.out) hcm LN.out
            have hxm1 := cell_stay HB.out hxm
            have hxn1 := cell_stay HB.out hxn
            clear hrm hrn hcm hcn g1 g2 g3 LM LN
            unfold cl at FC
            generalize stB (lx P m') (lx P n') = b3 at *
            generalize stB (lx P n') (lx P m') = b4 at *
            generalize lx P m' = xm at *
            generalize lx P n' = xn at *
            cases b3 with
            | true =>
              rcases FC.out (.inl rfl) with hj | ⟨hj1, hj2⟩
              · have HJ : Hid (j < n' ∨ i ≤ m') := Lib.hid (.inl hj)
                have U1 : decide ((j : Int) < (n' : Int)) = true := decide_eq_true (by omega)
                clear hj FC
                go_wp2_with (go_at_call 11; refine (num_any _ _).mono ?_; rintro e w4 ⟨rfl, rfl⟩)
                go_quiet ((go_at_call 17; with_reducible exact Calls.quiet_of (HQ1.out _ ⟨below_drewN HB.out _⟩)))
                go_wp2_with (go_at_call 11; refine (num_any _ _).mono ?_; rintro e w4 ⟨rfl, rfl⟩)
                all_goals (go_ret; exact ⟨by first | rfl | exact ret_b (by have := HJ.out; simp; omega) | exact ret_b (by have := HJ.out; simp at *; omega), below_drewN HB.out _⟩)
              · have HJ : Hid (j < n' ∨ i ≤ m') := Lib.hid (.inr hj2)
                have U1 : decide ((j : Int) < (n' : Int)) = false := decide_eq_false (by omega)
                have U2 : ((j : Int) == (n' : Int)) = true := by rw [beq_iff_eq]; omega
                have U3 : decide ((i : Int) ≤ (m' : Int)) = true := decide_eq_true (by omega)
                clear hj1 hj2 FC
                go_wp2_with (go_at_call 11; refine (num_any _ _).mono ?_; rintro e w4 ⟨rfl, rfl⟩)
                go_quiet ((go_at_call 17; with_reducible exact Calls.quiet_of (HQ1.out _ ⟨below_drewN HB.out _⟩)))
                go_wp2_with (go_at_call 11; refine (num_any _ _).mono ?_; rintro e w4 ⟨rfl, rfl⟩)
                all_goals (go_ret; exact ⟨by first | rfl | exact ret_b (by have := HJ.out; simp; omega) | exact ret_b (by have := HJ.out; simp at *; omega), below_drewN HB.out _⟩)
            | false =>
              cases b4 with
              | true =>
                rcases FC.out (.inr rfl) with hj | ⟨hj1, hj2⟩
                · have HJ : Hid (j < n' ∨ i ≤ m') := Lib.hid (.inl hj)
                  have U1 : decide ((j : Int) < (n' : Int)) = true := decide_eq_true (by omega)
                  clear hj FC
                  go_wp2_with (go_at_call 11; refine (num_any _ _).mono ?_; rintro e w4 ⟨rfl, rfl⟩)
                  go_quiet (first | (go_at_call 17; with_reducible exact Calls.quiet_of (HQ1.out _ ⟨below_drewN HB.out _⟩)) | (go_at_call 17; with_reducible exact Calls.quiet_of (HQ2.out _ ⟨below_drewN HB.out _⟩)))
                  go_wp2_with (go_at_call 11; refine (num_any _ _).mono ?_; rintro e w4 ⟨rfl, rfl⟩)
                  all_goals (go_ret; exact ⟨by first | rfl | exact ret_b (by have := HJ.out; simp; omega) | exact ret_b (by have := HJ.out; simp at *; omega), below_drewN HB.out _⟩)
                · have HJ : Hid (j < n' ∨ i ≤ m') := Lib.hid (.inr hj2)
                  have U1 : decide ((j : Int) < (n' : Int)) = false := decide_eq_false (by omega)
                  have U2 : ((j : Int) == (n' : Int)) = true := by rw [beq_iff_eq]; omega
                  have U3 : decide ((i : Int) ≤ (m' : Int)) = true := decide_eq_true (by omega)
                  clear hj1 hj2 FC
                  go_wp2_with (go_at_call 11; refine (num_any _ _).mono ?_; rintro e w4 ⟨rfl, rfl⟩)
                  go_quiet (first | (go_at_call 17; with_reducible exact Calls.quiet_of (HQ1.out _ ⟨below_drewN HB.out _⟩)) | (go_at_call 17; with_reducible exact Calls.quiet_of (HQ2.out _ ⟨below_drewN HB.out _⟩)))
                  go_wp2_with (go_at_call 11; refine (num_any _ _).mono ?_; rintro e w4 ⟨rfl, rfl⟩)
                  all_goals (go_ret; exact ⟨by first | rfl | exact ret_b (by have := HJ.out; simp; omega) | exact ret_b (by have := HJ.out; simp at *; omega), below_drewN HB.out _⟩)
              | false =>
                clear FC
                go_wp2_with (go_at_call 11; refine (num_any _ _).mono ?_; rintro e w4 ⟨rfl, rfl⟩)
                go_quiet (first | (go_at_call 17; with_reducible exact Calls.quiet_of (HQ1.out _ ⟨below_drewN HB.out _⟩)) | (go_at_call 17; with_reducible exact Calls.quiet_of (HQ2.out _ ⟨below_drewN HB.out _⟩)))
                go_wp2_with (go_at_call 11; refine (num_any _ _).mono ?_; rintro e w4 ⟨rfl, rfl⟩)
                all_goals (go_ret; exact ⟨by first | rfl | exact ret_b (by have := HJ.out; simp; omega) | exact ret_b (by have := HJ.out; simp at *; omega), below_drewN HB.out _⟩)
    · subst h1 h2 h3
      clear HV hv0
      by_cases g1 : m < 0
      · have T1 : decide (m < 0) = true := decide_eq_true g1
        clear g1
        go_wp2_with (go_at_call 11; refine (num_any _ _).mono ?_; rintro e w4 ⟨rfl, rfl⟩)
        go_ret
        exact ⟨rfl, HB.out⟩
      · by_cases g2 : n ≤ m
        · have T1 : decide (m < 0) = false := decide_eq_false g1
          have T2 : decide (n ≤ m) = true := decide_eq_true g2
          clear g1 g2
          go_wp2_with (go_at_call 11; refine (num_any _ _).mono ?_; rintro e w4 ⟨rfl, rfl⟩)
          go_ret
          exact ⟨rfl, HB.out⟩
        · by_cases g3 : (P.length : Int) ≤ n
          · have T1 : decide (m < 0) = false := decide_eq_false g1
            have T2 : decide (n ≤ m) = false := decide_eq_false g2
            have T3 : decide ((P.length : Int) ≤ n) = true := decide_eq_true g3
            clear g1 g2 g3
            go_wp2_with (go_at_call 11; refine (num_any _ _).mono ?_; rintro e w4 ⟨rfl, rfl⟩)
            go_ret
            exact ⟨rfl, HB.out⟩
          · obtain ⟨m', rfl⟩ : ∃ k : Nat, m = k := ⟨m.toNat, by omega⟩
            obtain ⟨n', rfl⟩ : ∃ k : Nat, n = k := ⟨n.toNat, by omega⟩
            have hmn : m' < n' := by omega
            have hnl : n' < P.length := by omega
            obtain ⟨ad, Bm, cm, e1, hxm, hcm, hrm⟩ := at_list HR.out m' (by omega)
            obtain ⟨ad2, Bn, cn, e2, hxn, hcn, hrn⟩ := at_list HR.out n' hnl
            have e3 := Option.some.inj (e1.symm.trans e2)
            subst e3
            cases e1
            clear e2
            have FC := Lib.hid (HF.out m' n' hmn hnl)
            have T1 : decide ((m' : Int) < 0) = false := decide_eq_false (by omega)
            have T2 : decide ((n' : Int) ≤ (m' : Int)) = false := decide_eq_false (by omega)
            have T3 : decide ((P.length : Int) ≤ (n' : Int)) = false := decide_eq_false (by omega)
            have hm2 : m' < P.length := by omega
            have LM := Lib.hid (HS.out _ (nth_mem [] P m' hm2))
            have LN := Lib.hid (HS.out _ (nth_mem [] P n' hnl))
            have HQ1 : Hid (∀ w0 : World, Aside0 (Below w.heap.size w w0) → Calls Tryd.prog 17 #[.slice Bm (lx P m').length cm, .slice Bn (lx P n').length cn] w0 fun e w' => e = .returned (.bool (stB (lx P m') (lx P n'))) ∧ ∃ k, w' = w0.drewN k) := Lib.hid fun w0 h => begins_q _ _ _ _ _ _ w0 (Kd.C_below hrm h.out) (Kd.C_below hrn h.out) hcn LM.out
            have HQ2 : Hid (∀ w0 : World, Aside0 (Below w.heap.size w w0) → Calls Tryd.prog 17 #[.slice Bn (lx P n').length cn, .slice Bm (lx P m').length cm] w0 fun e w' => e = .returned (.bool (stB (lx P n') (lx P m'))) ∧ ∃ k, w' = w0.drewN k) := Lib.hid fun w0 h => begins_q _ _ _ _ _ _ w0 (Kd.C_below hrn h.out) (Kd.C_below hrm h.out) hcm LN.out
            have hxm1 := cell_stay HB.out hxm
            have hxn1 := cell_stay HB.out hxn
            clear hrm hrn hcm hcn g1 g2 g3 LM LN
            unfold cl at FC
            generalize stB (lx P m') (lx P n') = b3 at *
            generalize stB (lx P n') (lx P m') = b4 at *
            generalize lx P m' = xm at *
            generalize lx P n' = xn at *
            cases b3 with
            | true =>
              rcases FC.out (.inl rfl) with hj | ⟨hj1, hj2⟩
              · have HJ : Hid (j < n' ∨ i ≤ m') := Lib.hid (.inl hj)
                have U1 : decide ((j : Int) < (n' : Int)) = true := decide_eq_true (by omega)
                clear hj FC
                go_wp2_with (go_at_call 11; refine (num_any _ _).mono ?_; rintro e w4 ⟨rfl, rfl⟩)
                go_quiet ((go_at_call 17; with_reducible exact Calls.quiet_of (HQ1.out _ ⟨below_drewN HB.out _⟩)))
                go_wp2_with (go_at_call 11; refine (num_any _ _).mono ?_; rintro e w4 ⟨rfl, rfl⟩)
                all_goals (go_ret; exact ⟨by first | rfl | exact ret_b (by have := HJ.out; simp; omega) | exact ret_b (by have := HJ.out; simp at *; omega), below_drewN HB.out _⟩)
              · have HJ : Hid (j < n' ∨ i ≤ m') := Lib.hid (.inr hj2)
                have U1 : decide ((j : Int) < (n' : Int)) = false := decide_eq_false (by omega)
                have U2 : ((j : Int) == (n' : Int)) = true := by rw [beq_iff_eq]; omega
                have U3 : decide ((i : Int) ≤ (m' : Int)) = true := decide_eq_true (by omega)
                clear hj1 hj2 FC
                go_wp2_with (go_at_call 11; refine (num_any _ _).mono ?_; rintro e w4 ⟨rfl, rfl⟩)
                go_quiet ((go_at_call 17; with_reducible exact Calls.quiet_of (HQ1.out _ ⟨below_drewN HB.out _⟩)))
                go_wp2_with (go_at_call 11; refine (num_any _ _).mono ?_; rintro e w4 ⟨rfl, rfl⟩)
                all_goals (go_ret; exact ⟨by first | rfl | exact ret_b (by have := HJ.out; simp; omega) | exact ret_b (by have := HJ.out; simp at *; omega), below_drewN HB.out _⟩)
            | false =>
              cases b4 with
              | true =>
                rcases FC.out (.inr rfl) with hj | ⟨hj1, hj2⟩
                · have HJ : Hid (j < n' ∨ i ≤ m') := Lib.hid (.inl hj)
                  have U1 : decide ((j : Int) < (n' : Int)) = true := decide_eq_true (by omega)
                  clear hj FC
                  go_wp2_with (go_at_call 11; refine (num_any _ _).mono ?_; rintro e w4 ⟨rfl, rfl⟩)
                  go_quiet (first | (go_at_call 17; with_reducible exact Calls.quiet_of (HQ1.out _ ⟨below_drewN HB.out _⟩)) | (go_at_call 17; with_reducible exact Calls.quiet_of (HQ2.out _ ⟨below_drewN HB.out _⟩)))
                  go_wp2_with (go_at_call 11; refine (num_any _ _).mono ?_; rintro e w4 ⟨rfl, rfl⟩)
                  all_goals (go_ret; exact ⟨by first | rfl | exact ret_b (by have := HJ.out; simp; omega) | exact ret_b (by have := HJ.out; simp at *; omega), below_drewN HB.out _⟩)
                · have HJ : Hid (j < n' ∨ i ≤ m') := Lib.hid (.inr hj2)
                  have U1 : decide ((j : Int) < (n' : Int)) = false := decide_eq_false (by omega)
                  have U2 : ((j : Int) == (n' : Int)) = true := by rw [beq_iff_eq]; omega
                  have U3 : decide ((i : Int) ≤ (m' : Int)) = true := decide_eq_true (by omega)
                  clear hj1 hj2 FC
                  go_wp2_with (go_at_call 11; refine (num_any _ _).mono ?_; rintro e w4 ⟨rfl, rfl⟩)
                  go_quiet (first | (go_at_call 17; with_reducible exact Calls.quiet_of (HQ1.out _ ⟨below_drewN HB.out _⟩)) | (go_at_call 17; with_reducible exact Calls.quiet_of (HQ2.out _ ⟨below_drewN HB.out _⟩)))
                  go_wp2_with (go_at_call 11; refine (num_any _ _).mono ?_; rintro e w4 ⟨rfl, rfl⟩)
                  all_goals (go_ret; exact ⟨by first | rfl | exact ret_b (by have := HJ.out; simp; omega) | exact ret_b (by have := HJ.out; simp at *; omega), below_drewN HB.out _⟩)
              | false =>
                clear FC
                go_wp2_with (go_at_call 11; refine (num_any _ _).mono ?_; rintro e w4 ⟨rfl, rfl⟩)
                go_quiet (first | (go_at_call 17; with_reducible exact Calls.quiet_of (HQ1.out _ ⟨below_drewN HB.out _⟩)) | (go_at_call 17; with_reducible exact Calls.quiet_of (HQ2.out _ ⟨below_drewN HB.out _⟩)))
                go_wp2_with (go_at_call 11; refine (num_any _ _).mono ?_; rintro e w4 ⟨rfl, rfl⟩)
                all_goals (go_ret; exact ⟨by first | rfl | exact ret_b (by have := HJ.out; simp; omega) | exact ret_b (by have := HJ.out; simp at *; omega), below_drewN HB.out _⟩)
end Go.Proofs.YtgbeppbdebibiaaDoor.LawNamesClashShown
