/- torrentlaw5.NamesTotal, of arguments within the bound: the order of paths is a total one, in which a folder comes ahead of what is in it and all that stays together. Its card is tied. -/
import Derived.Test.YtgbeppbdebibiaaDoorCards
import Derived.Test.YtgbeppbdebibiaaDoorTie
import Derived.Test.YtgbeppbdebibiaaDoorTab
import Derived.Test.YtgbeppbdebibiaaDoorRowU
import Derived.Test.YtgbeppbdebibiaaDoorAw
import Derived.Test.YtgbeppbdebibiaaDoorNo
import Derived.Shelf.Vars
set_option linter.unusedVariables false
set_option linter.unusedSimpArgs false
namespace Go.Proofs.YtgbeppbdebibiaaDoor.LawNamesTotal
open Go.ChangeShapes Go.WideShapes Go.ChangeAt Go.RowKit Go.Proofs.YtgbeppbdebibiaaDoorW.PrintWords
open Go.Proofs.YtgbeppbdebibiaaDoor.Wd Go.Proofs.YtgbeppbdebibiaaDoor.Nm
set_option maxHeartbeats 1000000 in
set_option maxRecDepth 100000 in
theorem law_any (A0 : Option Addr) (c0 : Nat) (xs : List ByteArray) (A1 : Option Addr) (c1 : Nat) (ys : List ByteArray) (A2 : Option Addr) (c2 : Nat) (zs : List ByteArray) (w : World)
    (hr0 : Kd.string.C w A0 xs.length xs) (hc0 : xs.length ≤ c0) (hl0 : xs.length ≤ 1048576) (hs0 : ∀ x ∈ xs, x.size ≤ 1048576)
    (hr1 : Kd.string.C w A1 ys.length ys) (hc1 : ys.length ≤ c1) (hl1 : ys.length ≤ 1048576) (hs1 : ∀ x ∈ ys, x.size ≤ 1048576)
    (hr2 : Kd.string.C w A2 zs.length zs) (hc2 : zs.length ≤ c2) (hl2 : zs.length ≤ 1048576) (hs2 : ∀ x ∈ zs, x.size ≤ 1048576) (hm : MaxOk w) :
    Calls Tryd.prog 6 #[.slice A0 xs.length c0, .slice A1 ys.length c1, .slice A2 zs.length c2] w fun e w' => e = .returned (.bool true) ∧ Below w.heap.size w w' := by
  have HW := Lib.hid (awake_any w hm)
  have HR0 := Aside0.mk hr0
  have HR1 := Aside0.mk hr1
  have HR2 := Aside0.mk hr2
  have LAB : Hid (∀ w : World, Kd.string.C w A0 xs.length xs → Kd.string.C w A1 ys.length ys → Calls Tryd.prog 16 #[.slice A0 xs.length c0, .slice A1 ys.length c1] w fun e w' => e = .returned (.bool (lessL xs ys)) ∧ w = w') := Lib.hid fun w h1 h2 => less_any _ _ _ _ _ _ w h1 h2 (by omega) (by omega)
  have LBA : Hid (∀ w : World, Kd.string.C w A1 ys.length ys → Kd.string.C w A0 xs.length xs → Calls Tryd.prog 16 #[.slice A1 ys.length c1, .slice A0 xs.length c0] w fun e w' => e = .returned (.bool (lessL ys xs)) ∧ w = w') := Lib.hid fun w h1 h2 => less_any _ _ _ _ _ _ w h1 h2 (by omega) (by omega)
  have LBC : Hid (∀ w : World, Kd.string.C w A1 ys.length ys → Kd.string.C w A2 zs.length zs → Calls Tryd.prog 16 #[.slice A1 ys.length c1, .slice A2 zs.length c2] w fun e w' => e = .returned (.bool (lessL ys zs)) ∧ w = w') := Lib.hid fun w h1 h2 => less_any _ _ _ _ _ _ w h1 h2 (by omega) (by omega)
  have LAC : Hid (∀ w : World, Kd.string.C w A0 xs.length xs → Kd.string.C w A2 zs.length zs → Calls Tryd.prog 16 #[.slice A0 xs.length c0, .slice A2 zs.length c2] w fun e w' => e = .returned (.bool (lessL xs zs)) ∧ w = w') := Lib.hid fun w h1 h2 => less_any _ _ _ _ _ _ w h1 h2 (by omega) (by omega)
  have LAA : Hid (∀ w : World, Kd.string.C w A0 xs.length xs → Kd.string.C w A0 xs.length xs → Calls Tryd.prog 16 #[.slice A0 xs.length c0, .slice A0 xs.length c0] w fun e w' => e = .returned (.bool false) ∧ w = w') := Lib.hid fun w h1 h2 => by rw [← lessL_irr xs]; exact less_any _ _ _ _ _ _ w h1 h2 (by omega) (by omega)
  have LIN : Hid (∀ A c (w : World), Kd.string.C w A0 xs.length xs → Kd.string.C w A (xs ++ zs).length (xs ++ zs) → Calls Tryd.prog 16 #[.slice A0 xs.length c0, .slice A (xs ++ zs).length c] w fun e w' => e = .returned (.bool (decide ((0 : Int) < (zs.length : Int)))) ∧ w = w') := Lib.hid fun A c w h1 h2 => by
    rw [← lessL_in zs xs]; exact less_any _ _ _ _ _ _ w h1 h2 (by omega) (by rw [List.length_append]; omega)
  have LBE : Hid (lessL xs ys = true → stB xs ys = false → Hid (∀ A c (w : World), Kd.string.C w A (xs ++ zs).length (xs ++ zs) → Kd.string.C w A1 ys.length ys → Calls Tryd.prog 16 #[.slice A (xs ++ zs).length c, .slice A1 ys.length c1] w fun e w' => e = .returned (.bool true) ∧ w = w')) := Lib.hid fun g1 g2 => Lib.hid fun A c w h1 h2 => by
    rw [← lessL_behind zs xs ys g1 g2]; exact less_any _ _ _ _ _ _ w h1 h2 (by rw [List.length_append]; omega) (by omega)
  have SAB : Hid (∀ w : World, Kd.string.C w A0 xs.length xs → Kd.string.C w A1 ys.length ys → Calls Tryd.prog 13 #[.slice A0 xs.length c0, .slice A1 ys.length c1] w fun e w' => e = .returned (.bool (sameB xs ys)) ∧ Below w.heap.size w w') := Lib.hid fun w h1 h2 => same_any _ _ _ _ _ _ w h1 h2 (by omega)
  have BAB : Hid (∀ w : World, Kd.string.C w A0 xs.length xs → Kd.string.C w A1 ys.length ys → Calls Tryd.prog 17 #[.slice A0 xs.length c0, .slice A1 ys.length c1] w fun e w' => e = .returned (.bool (stB xs ys)) ∧ Below w.heap.size w w') := Lib.hid fun w h1 h2 => begins_any _ _ _ _ _ _ w h1 h2 hc1 (by omega)
  have F1 := Lib.hid (lessL_asymm xs ys)
  have F2 := Lib.hid (lessL_total xs ys)
  have F3 := Lib.hid (lessL_trans xs ys zs)
  clear hm hr0 hr1 hr2 hc0 hc1 hc2 hs0 hs1 hs2
  generalize lessL xs ys = ab at *
  generalize lessL ys xs = ba at *
  generalize lessL ys zs = bc at *
  generalize lessL xs zs = ac at *
  generalize sameB xs ys = sm at *
  generalize stB xs ys = bg at *
  generalize hi : xs ++ zs = ins at *
  have HI := Lib.hid hi
  clear hi
  have q0 : (decide ((0 : Int) < (zs.length : Int)) != decide ((0 : Int) < (zs.length : Int))) = false := by simp
  cases ab with
  | true =>
    have hba : ba = false := F1.out rfl
    subst hba
    have LBF := LBE.out rfl
    clear LBE F2
    cases bg with
    | true =>
      clear LBF
      cases bc with
      | true =>
        have hac : ac = true := F3.out rfl rfl
        subst hac
        go_enter Tryd.func6, Tryd.ntmps6
        go_wp2_with fail
        go_at_call 9
        refine HW.out.mono ?_
        rintro e w1 ⟨rfl, hb1⟩
        have HB := Aside0.mk hb1
        clear hb1
        go_wp2_with fail
        go_at_call 16
        refine (LAB.out _ (Kd.C_below HR0.out HB.out) (Kd.C_below HR1.out HB.out)).mono ?_
        rintro e w2 ⟨rfl, rfl⟩
        go_wp2_with fail
        go_at_call 16
        refine (LBA.out _ (Kd.C_below HR1.out HB.out) (Kd.C_below HR0.out HB.out)).mono ?_
        rintro e w2 ⟨rfl, rfl⟩
        go_wp2_with fail
        go_at_call 16
        refine (LBC.out _ (Kd.C_below HR1.out HB.out) (Kd.C_below HR2.out HB.out)).mono ?_
        rintro e w2 ⟨rfl, rfl⟩
        go_wp2_with fail
        go_at_call 16
        refine (LAC.out _ (Kd.C_below HR0.out HB.out) (Kd.C_below HR2.out HB.out)).mono ?_
        rintro e w2 ⟨rfl, rfl⟩
        go_wp2_with fail
        go_at_call 16
        refine (LAA.out _ (Kd.C_below HR0.out HB.out) (Kd.C_below HR0.out HB.out)).mono ?_
        rintro e w2 ⟨rfl, rfl⟩
        go_wp2_with (first | ((at_builtin; refine Kd.R_append_rows Kd.string (w0 := w) w.heap.size rfl (.tmp 62) (.tmp 63) 22 9 (.string ⟨#[]⟩) 16 rfl Tryd.underlying22 infoStr rfl (by decide) (by omega) (.slice none 0 0) ([] : List ByteArray) xs _ _ _ (fun _ => True) (fun _ => False) rfl rfl ?aO ?aR (fun _ _ h => h) (fun _ h => h.elim) ?aF ?aB ?aS ?aL ?_; (case aR => exact (Kd.C_below HR0.out HB.out)); (case aB => exact HB.out); (case aF => exact (fun _ _ => trivial)); (case aO => exact (Kd.R_nil _ _ _ _ _)); (case aS => exact below_size HB.out); (case aL => simp only [List.length_nil]; omega); intro v1 wq1 ho hb hg hat; have HO1 := Aside0.mk ho; have HB1 := Aside0.mk hb; clear ho hb hg hat HB); have HB := HB1; clear HB1; rw [List.nil_append] at HO1) | ((at_builtin; refine Kd.R_append_rows Kd.string (w0 := w) w.heap.size rfl (.tmp 65) (.tmp 66) 22 9 (.string ⟨#[]⟩) 16 rfl Tryd.underlying22 infoStr rfl (by decide) (by omega) v1 xs zs _ _ _ (fun _ => True) (fun _ => False) rfl rfl ?aO ?aR (fun _ _ h => h) (fun _ h => h.elim) ?aF ?aB ?aS ?aL ?_; (case aR => exact (Kd.C_below HR2.out HB.out)); (case aB => exact HB.out); (case aF => exact (fun _ _ => trivial)); (case aO => exact HO1.out); (case aS => exact below_size HB.out); (case aL => omega); intro v2 wq2 ho hb hg hat; have HO2 := Aside0.mk ho; have HB2 := Aside0.mk hb; clear ho hb hg hat HB); have HB := HB2; clear HB2; rw [HI.out] at HO2; obtain ⟨A, c, hv2, hc2, hr2⟩ := Kd.R_reads HO2.out; subst hv2; have HQ := Aside0.mk hr2; clear hr2 HO1 HO2))
        go_at_call 16
        refine (LIN.out _ _ _ (Kd.C_below HR0.out HB.out) HQ.out).mono ?_
        rintro e w5 ⟨rfl, rfl⟩
        go_wp2_with fail
        go_at_call 17
        refine (BAB.out _ (Kd.C_below HR0.out HB.out) (Kd.C_below HR1.out HB.out)).mono ?_
        rintro e w6 ⟨rfl, hb6⟩
        go_wp2
        go_ret
        exact ⟨rfl, below_step HB.out hb6⟩
      | false =>
        go_enter Tryd.func6, Tryd.ntmps6
        go_wp2_with fail
        go_at_call 9
        refine HW.out.mono ?_
        rintro e w1 ⟨rfl, hb1⟩
        have HB := Aside0.mk hb1
        clear hb1
        go_wp2_with fail
        go_at_call 16
        refine (LAB.out _ (Kd.C_below HR0.out HB.out) (Kd.C_below HR1.out HB.out)).mono ?_
        rintro e w2 ⟨rfl, rfl⟩
        go_wp2_with fail
        go_at_call 16
        refine (LBA.out _ (Kd.C_below HR1.out HB.out) (Kd.C_below HR0.out HB.out)).mono ?_
        rintro e w2 ⟨rfl, rfl⟩
        go_wp2_with fail
        go_at_call 16
        refine (LBC.out _ (Kd.C_below HR1.out HB.out) (Kd.C_below HR2.out HB.out)).mono ?_
        rintro e w2 ⟨rfl, rfl⟩
        go_wp2_with fail
        go_at_call 16
        refine (LAC.out _ (Kd.C_below HR0.out HB.out) (Kd.C_below HR2.out HB.out)).mono ?_
        rintro e w2 ⟨rfl, rfl⟩
        go_wp2_with fail
        go_at_call 16
        refine (LAA.out _ (Kd.C_below HR0.out HB.out) (Kd.C_below HR0.out HB.out)).mono ?_
        rintro e w2 ⟨rfl, rfl⟩
        go_wp2_with (first | ((at_builtin; refine Kd.R_append_rows Kd.string (w0 := w) w.heap.size rfl (.tmp 62) (.tmp 63) 22 9 (.string ⟨#[]⟩) 16 rfl Tryd.underlying22 infoStr rfl (by decide) (by omega) (.slice none 0 0) ([] : List ByteArray) xs _ _ _ (fun _ => True) (fun _ => False) rfl rfl ?aO ?aR (fun _ _ h => h) (fun _ h => h.elim) ?aF ?aB ?aS ?aL ?_; (case aR => exact (Kd.C_below HR0.out HB.out)); (case aB => exact HB.out); (case aF => exact (fun _ _ => trivial)); (case aO => exact (Kd.R_nil _ _ _ _ _)); (case aS => exact below_size HB.out); (case aL => simp only [List.length_nil]; omega); intro v1 wq1 ho hb hg hat; have HO1 := Aside0.mk ho; have HB1 := Aside0.mk hb; clear ho hb hg hat HB); have HB := HB1; clear HB1; rw [List.nil_append] at HO1) | ((at_builtin; refine Kd.R_append_rows Kd.string (w0 := w) w.heap.size rfl (.tmp 65) (.tmp 66) 22 9 (.string ⟨#[]⟩) 16 rfl Tryd.underlying22 infoStr rfl (by decide) (by omega) v1 xs zs _ _ _ (fun _ => True) (fun _ => False) rfl rfl ?aO ?aR (fun _ _ h => h) (fun _ h => h.elim) ?aF ?aB ?aS ?aL ?_; (case aR => exact (Kd.C_below HR2.out HB.out)); (case aB => exact HB.out); (case aF => exact (fun _ _ => trivial)); (case aO => exact HO1.out); (case aS => exact below_size HB.out); (case aL => omega); intro v2 wq2 ho hb hg hat; have HO2 := Aside0.mk ho; have HB2 := Aside0.mk hb; clear ho hb hg hat HB); have HB := HB2; clear HB2; rw [HI.out] at HO2; obtain ⟨A, c, hv2, hc2, hr2⟩ := Kd.R_reads HO2.out; subst hv2; have HQ := Aside0.mk hr2; clear hr2 HO1 HO2))
        go_at_call 16
        refine (LIN.out _ _ _ (Kd.C_below HR0.out HB.out) HQ.out).mono ?_
        rintro e w5 ⟨rfl, rfl⟩
        go_wp2_with fail
        go_at_call 17
        refine (BAB.out _ (Kd.C_below HR0.out HB.out) (Kd.C_below HR1.out HB.out)).mono ?_
        rintro e w6 ⟨rfl, hb6⟩
        go_wp2
        go_ret
        exact ⟨rfl, below_step HB.out hb6⟩
    | false =>
      have LBQ := LBF rfl
      clear LBF
      cases bc with
      | true =>
        have hac : ac = true := F3.out rfl rfl
        subst hac
        go_enter Tryd.func6, Tryd.ntmps6
        go_wp2_with fail
        go_at_call 9
        refine HW.out.mono ?_
        rintro e w1 ⟨rfl, hb1⟩
        have HB := Aside0.mk hb1
        clear hb1
        go_wp2_with fail
        go_at_call 16
        refine (LAB.out _ (Kd.C_below HR0.out HB.out) (Kd.C_below HR1.out HB.out)).mono ?_
        rintro e w2 ⟨rfl, rfl⟩
        go_wp2_with fail
        go_at_call 16
        refine (LBA.out _ (Kd.C_below HR1.out HB.out) (Kd.C_below HR0.out HB.out)).mono ?_
        rintro e w2 ⟨rfl, rfl⟩
        go_wp2_with fail
        go_at_call 16
        refine (LBC.out _ (Kd.C_below HR1.out HB.out) (Kd.C_below HR2.out HB.out)).mono ?_
        rintro e w2 ⟨rfl, rfl⟩
        go_wp2_with fail
        go_at_call 16
        refine (LAC.out _ (Kd.C_below HR0.out HB.out) (Kd.C_below HR2.out HB.out)).mono ?_
        rintro e w2 ⟨rfl, rfl⟩
        go_wp2_with fail
        go_at_call 16
        refine (LAA.out _ (Kd.C_below HR0.out HB.out) (Kd.C_below HR0.out HB.out)).mono ?_
        rintro e w2 ⟨rfl, rfl⟩
        go_wp2_with (first | ((at_builtin; refine Kd.R_append_rows Kd.string (w0 := w) w.heap.size rfl (.tmp 62) (.tmp 63) 22 9 (.string ⟨#[]⟩) 16 rfl Tryd.underlying22 infoStr rfl (by decide) (by omega) (.slice none 0 0) ([] : List ByteArray) xs _ _ _ (fun _ => True) (fun _ => False) rfl rfl ?aO ?aR (fun _ _ h => h) (fun _ h => h.elim) ?aF ?aB ?aS ?aL ?_; (case aR => exact (Kd.C_below HR0.out HB.out)); (case aB => exact HB.out); (case aF => exact (fun _ _ => trivial)); (case aO => exact (Kd.R_nil _ _ _ _ _)); (case aS => exact below_size HB.out); (case aL => simp only [List.length_nil]; omega); intro v1 wq1 ho hb hg hat; have HO1 := Aside0.mk ho; have HB1 := Aside0.mk hb; clear ho hb hg hat HB); have HB := HB1; clear HB1; rw [List.nil_append] at HO1) | ((at_builtin; refine Kd.R_append_rows Kd.string (w0 := w) w.heap.size rfl (.tmp 65) (.tmp 66) 22 9 (.string ⟨#[]⟩) 16 rfl Tryd.underlying22 infoStr rfl (by decide) (by omega) v1 xs zs _ _ _ (fun _ => True) (fun _ => False) rfl rfl ?aO ?aR (fun _ _ h => h) (fun _ h => h.elim) ?aF ?aB ?aS ?aL ?_; (case aR => exact (Kd.C_below HR2.out HB.out)); (case aB => exact HB.out); (case aF => exact (fun _ _ => trivial)); (case aO => exact HO1.out); (case aS => exact below_size HB.out); (case aL => omega); intro v2 wq2 ho hb hg hat; have HO2 := Aside0.mk ho; have HB2 := Aside0.mk hb; clear ho hb hg hat HB); have HB := HB2; clear HB2; rw [HI.out] at HO2; obtain ⟨A, c, hv2, hc2, hr2⟩ := Kd.R_reads HO2.out; subst hv2; have HQ := Aside0.mk hr2; clear hr2 HO1 HO2))
        go_at_call 16
        refine (LIN.out _ _ _ (Kd.C_below HR0.out HB.out) HQ.out).mono ?_
        rintro e w5 ⟨rfl, rfl⟩
        go_wp2_with fail
        go_at_call 17
        refine (BAB.out _ (Kd.C_below HR0.out HB.out) (Kd.C_below HR1.out HB.out)).mono ?_
        rintro e w6 ⟨rfl, hb6⟩
        go_wp2_with fail
        go_at_call 16
        refine (LBQ.out _ _ _ (Kd.C_below HQ.out hb6) (Kd.C_below HR1.out (below_step HB.out hb6))).mono ?_
        rintro e w7 ⟨rfl, rfl⟩
        go_wp2
        go_ret
        exact ⟨rfl, below_step HB.out hb6⟩
      | false =>
        go_enter Tryd.func6, Tryd.ntmps6
        go_wp2_with fail
        go_at_call 9
        refine HW.out.mono ?_
        rintro e w1 ⟨rfl, hb1⟩
        have HB := Aside0.mk hb1
        clear hb1
        go_wp2_with fail
        go_at_call 16
        refine (LAB.out _ (Kd.C_below HR0.out HB.out) (Kd.C_below HR1.out HB.out)).mono ?_
        rintro e w2 ⟨rfl, rfl⟩
        go_wp2_with fail
        go_at_call 16
        refine (LBA.out _ (Kd.C_below HR1.out HB.out) (Kd.C_below HR0.out HB.out)).mono ?_
        rintro e w2 ⟨rfl, rfl⟩
        go_wp2_with fail
        go_at_call 16
        refine (LBC.out _ (Kd.C_below HR1.out HB.out) (Kd.C_below HR2.out HB.out)).mono ?_
        rintro e w2 ⟨rfl, rfl⟩
        go_wp2_with fail
        go_at_call 16
        refine (LAC.out _ (Kd.C_below HR0.out HB.out) (Kd.C_below HR2.out HB.out)).mono ?_
        rintro e w2 ⟨rfl, rfl⟩
        go_wp2_with fail
        go_at_call 16
        refine (LAA.out _ (Kd.C_below HR0.out HB.out) (Kd.C_below HR0.out HB.out)).mono ?_
        rintro e w2 ⟨rfl, rfl⟩
        go_wp2_with (first | ((at_builtin; refine Kd.R_append_rows Kd.string (w0 := w) w.heap.size rfl (.tmp 62) (.tmp 63) 22 9 (.string ⟨#[]⟩) 16 rfl Tryd.underlying22 infoStr rfl (by decide) (by omega) (.slice none 0 0) ([] : List ByteArray) xs _ _ _ (fun _ => True) (fun _ => False) rfl rfl ?aO ?aR (fun _ _ h => h) (fun _ h => h.elim) ?aF ?aB ?aS ?aL ?_; (case aR => exact (Kd.C_below HR0.out HB.out)); (case aB => exact HB.out); (case aF => exact (fun _ _ => trivial)); (case aO => exact (Kd.R_nil _ _ _ _ _)); (case aS => exact below_size HB.out); (case aL => simp only [List.length_nil]; omega); intro v1 wq1 ho hb hg hat; have HO1 := Aside0.mk ho; have HB1 := Aside0.mk hb; clear ho hb hg hat HB); have HB := HB1; clear HB1; rw [List.nil_append] at HO1) | ((at_builtin; refine Kd.R_append_rows Kd.string (w0 := w) w.heap.size rfl (.tmp 65) (.tmp 66) 22 9 (.string ⟨#[]⟩) 16 rfl Tryd.underlying22 infoStr rfl (by decide) (by omega) v1 xs zs _ _ _ (fun _ => True) (fun _ => False) rfl rfl ?aO ?aR (fun _ _ h => h) (fun _ h => h.elim) ?aF ?aB ?aS ?aL ?_; (case aR => exact (Kd.C_below HR2.out HB.out)); (case aB => exact HB.out); (case aF => exact (fun _ _ => trivial)); (case aO => exact HO1.out); (case aS => exact below_size HB.out); (case aL => omega); intro v2 wq2 ho hb hg hat; have HO2 := Aside0.mk ho; have HB2 := Aside0.mk hb; clear ho hb hg hat HB); have HB := HB2; clear HB2; rw [HI.out] at HO2; obtain ⟨A, c, hv2, hc2, hr2⟩ := Kd.R_reads HO2.out; subst hv2; have HQ := Aside0.mk hr2; clear hr2 HO1 HO2))
        go_at_call 16
        refine (LIN.out _ _ _ (Kd.C_below HR0.out HB.out) HQ.out).mono ?_
        rintro e w5 ⟨rfl, rfl⟩
        go_wp2_with fail
        go_at_call 17
        refine (BAB.out _ (Kd.C_below HR0.out HB.out) (Kd.C_below HR1.out HB.out)).mono ?_
        rintro e w6 ⟨rfl, hb6⟩
        go_wp2_with fail
        go_at_call 16
        refine (LBQ.out _ _ _ (Kd.C_below HQ.out hb6) (Kd.C_below HR1.out (below_step HB.out hb6))).mono ?_
        rintro e w7 ⟨rfl, rfl⟩
        go_wp2
        go_ret
        exact ⟨rfl, below_step HB.out hb6⟩
  | false =>
    clear LBE
    cases ba with
    | true =>
      go_enter Tryd.func6, Tryd.ntmps6
      go_wp2_with fail
      go_at_call 9
      refine HW.out.mono ?_
      rintro e w1 ⟨rfl, hb1⟩
      have HB := Aside0.mk hb1
      clear hb1
      go_wp2_with fail
      go_at_call 16
      refine (LAB.out _ (Kd.C_below HR0.out HB.out) (Kd.C_below HR1.out HB.out)).mono ?_
      rintro e w2 ⟨rfl, rfl⟩
      go_wp2_with fail
      go_at_call 16
      refine (LBA.out _ (Kd.C_below HR1.out HB.out) (Kd.C_below HR0.out HB.out)).mono ?_
      rintro e w2 ⟨rfl, rfl⟩
      go_wp2_with fail
      go_at_call 16
      refine (LBC.out _ (Kd.C_below HR1.out HB.out) (Kd.C_below HR2.out HB.out)).mono ?_
      rintro e w2 ⟨rfl, rfl⟩
      go_wp2_with fail
      go_at_call 16
      refine (LAC.out _ (Kd.C_below HR0.out HB.out) (Kd.C_below HR2.out HB.out)).mono ?_
      rintro e w2 ⟨rfl, rfl⟩
      go_wp2_with fail
      go_at_call 16
      refine (LAA.out _ (Kd.C_below HR0.out HB.out) (Kd.C_below HR0.out HB.out)).mono ?_
      rintro e w2 ⟨rfl, rfl⟩
      go_wp2_with (first | ((at_builtin; refine Kd.R_append_rows Kd.string (w0 := w) w.heap.size rfl (.tmp 62) (.tmp 63) 22 9 (.string ⟨#[]⟩) 16 rfl Tryd.underlying22 infoStr rfl (by decide) (by omega) (.slice none 0 0) ([] : List ByteArray) xs _ _ _ (fun _ => True) (fun _ => False) rfl rfl ?aO ?aR (fun _ _ h => h) (fun _ h => h.elim) ?aF ?aB ?aS ?aL ?_; (case aR => exact (Kd.C_below HR0.out HB.out)); (case aB => exact HB.out); (case aF => exact (fun _ _ => trivial)); (case aO => exact (Kd.R_nil _ _ _ _ _)); (case aS => exact below_size HB.out); (case aL => simp only [List.length_nil]; omega); intro v1 wq1 ho hb hg hat; have HO1 := Aside0.mk ho; have HB1 := Aside0.mk hb; clear ho hb hg hat HB); have HB := HB1; clear HB1; rw [List.nil_append] at HO1) | ((at_builtin; refine Kd.R_append_rows Kd.string (w0 := w) w.heap.size rfl (.tmp 65) (.tmp 66) 22 9 (.string ⟨#[]⟩) 16 rfl Tryd.underlying22 infoStr rfl (by decide) (by omega) v1 xs zs _ _ _ (fun _ => True) (fun _ => False) rfl rfl ?aO ?aR (fun _ _ h => h) (fun _ h => h.elim) ?aF ?aB ?aS ?aL ?_; (case aR => exact (Kd.C_below HR2.out HB.out)); (case aB => exact HB.out); (case aF => exact (fun _ _ => trivial)); (case aO => exact HO1.out); (case aS => exact below_size HB.out); (case aL => omega); intro v2 wq2 ho hb hg hat; have HO2 := Aside0.mk ho; have HB2 := Aside0.mk hb; clear ho hb hg hat HB); have HB := HB2; clear HB2; rw [HI.out] at HO2; obtain ⟨A, c, hv2, hc2, hr2⟩ := Kd.R_reads HO2.out; subst hv2; have HQ := Aside0.mk hr2; clear hr2 HO1 HO2))
      go_at_call 16
      refine (LIN.out _ _ _ (Kd.C_below HR0.out HB.out) HQ.out).mono ?_
      rintro e w5 ⟨rfl, rfl⟩
      go_wp2
      go_ret
      exact ⟨rfl, HB.out⟩
    | false =>
      have hsm : sm = true := F2.out rfl
      subst hsm
      go_enter Tryd.func6, Tryd.ntmps6
      go_wp2_with fail
      go_at_call 9
      refine HW.out.mono ?_
      rintro e w1 ⟨rfl, hb1⟩
      have HB := Aside0.mk hb1
      clear hb1
      go_wp2_with fail
      go_at_call 16
      refine (LAB.out _ (Kd.C_below HR0.out HB.out) (Kd.C_below HR1.out HB.out)).mono ?_
      rintro e w2 ⟨rfl, rfl⟩
      go_wp2_with fail
      go_at_call 16
      refine (LBA.out _ (Kd.C_below HR1.out HB.out) (Kd.C_below HR0.out HB.out)).mono ?_
      rintro e w2 ⟨rfl, rfl⟩
      go_wp2_with fail
      go_at_call 16
      refine (LBC.out _ (Kd.C_below HR1.out HB.out) (Kd.C_below HR2.out HB.out)).mono ?_
      rintro e w2 ⟨rfl, rfl⟩
      go_wp2_with fail
      go_at_call 16
      refine (LAC.out _ (Kd.C_below HR0.out HB.out) (Kd.C_below HR2.out HB.out)).mono ?_
      rintro e w2 ⟨rfl, rfl⟩
      go_wp2_with fail
      go_at_call 16
      refine (LAA.out _ (Kd.C_below HR0.out HB.out) (Kd.C_below HR0.out HB.out)).mono ?_
      rintro e w2 ⟨rfl, rfl⟩
      go_wp2_with fail
      go_at_call 13
      refine (SAB.out _ (Kd.C_below HR0.out HB.out) (Kd.C_below HR1.out HB.out)).mono ?_
      rintro e w3 ⟨rfl, hb3⟩
      replace HB := Aside0.mk (below_step HB.out hb3)
      clear hb3
      go_wp2_with (first | ((at_builtin; refine Kd.R_append_rows Kd.string (w0 := w) w.heap.size rfl (.tmp 62) (.tmp 63) 22 9 (.string ⟨#[]⟩) 16 rfl Tryd.underlying22 infoStr rfl (by decide) (by omega) (.slice none 0 0) ([] : List ByteArray) xs _ _ _ (fun _ => True) (fun _ => False) rfl rfl ?aO ?aR (fun _ _ h => h) (fun _ h => h.elim) ?aF ?aB ?aS ?aL ?_; (case aR => exact (Kd.C_below HR0.out HB.out)); (case aB => exact HB.out); (case aF => exact (fun _ _ => trivial)); (case aO => exact (Kd.R_nil _ _ _ _ _)); (case aS => exact below_size HB.out); (case aL => simp only [List.length_nil]; omega); intro v1 wq1 ho hb hg hat; have HO1 := Aside0.mk ho; have HB1 := Aside0.mk hb; clear ho hb hg hat HB); have HB := HB1; clear HB1; rw [List.nil_append] at HO1) | ((at_builtin; refine Kd.R_append_rows Kd.string (w0 := w) w.heap.size rfl (.tmp 65) (.tmp 66) 22 9 (.string ⟨#[]⟩) 16 rfl Tryd.underlying22 infoStr rfl (by decide) (by omega) v1 xs zs _ _ _ (fun _ => True) (fun _ => False) rfl rfl ?aO ?aR (fun _ _ h => h) (fun _ h => h.elim) ?aF ?aB ?aS ?aL ?_; (case aR => exact (Kd.C_below HR2.out HB.out)); (case aB => exact HB.out); (case aF => exact (fun _ _ => trivial)); (case aO => exact HO1.out); (case aS => exact below_size HB.out); (case aL => omega); intro v2 wq2 ho hb hg hat; have HO2 := Aside0.mk ho; have HB2 := Aside0.mk hb; clear ho hb hg hat HB); have HB := HB2; clear HB2; rw [HI.out] at HO2; obtain ⟨A, c, hv2, hc2, hr2⟩ := Kd.R_reads HO2.out; subst hv2; have HQ := Aside0.mk hr2; clear hr2 HO1 HO2))
      go_at_call 16
      refine (LIN.out _ _ _ (Kd.C_below HR0.out HB.out) HQ.out).mono ?_
      rintro e w5 ⟨rfl, rfl⟩
      go_wp2
      go_ret
      exact ⟨rfl, HB.out⟩

theorem laid_met (os : Os) : laidMet Tryd.prog Rows.namesTotalUptoRow.laid ((Tab.laidWorld os).forCall (fun _ _ => 0) ⟨#[], #[.slice none 0 0, .slice none 0 0, .slice none 0 0], []⟩).memory :=
  laidMet_of_run' 8 (by kernel_rfl) (by kernel_rfl)
theorem reads (os : Os) {H : Type} (enc : TypeId × Value → H) : ∃ places, DataW.whole enc Tryd.prog ((Tab.laidWorld os).forCall (fun _ _ => 0) ⟨#[], #[.slice none 0 0, .slice none 0 0, .slice none 0 0], []⟩).memory Tryd.f6.params.toList Rows.namesTotalSpec.vars false (#[.slice none 0 0, .slice none 0 0, .slice none 0 0] : Array Value).toList 8 = some ([.nil, .nil, .nil], [], places) :=
  ⟨[], by kernel_rfl⟩
set_option maxRecDepth 100000 in
theorem lifted (os : Os) (started : os.Started) (H : Type) (enc : TypeId × Value → H) (F : Stop.Interp) :
    ReturnsInHanded {} Tryd.checked os 6 .any ((Rows.OpenSpec.upto Rows.namesTotalSpec).preRow enc Tryd.prog Tryd.f6 Rows.namesTotalUptoRow.domain false Rows.namesTotalUptoRow.laid) (((Rows.OpenSpec.upto Rows.namesTotalSpec).at F).post enc Tryd.prog Tryd.f6 false true false false) := by
  obtain ⟨places, hx⟩ := reads os enc
  refine returnsInHanded_of_row (C := Tryd.checked) (s := Rows.OpenSpec.upto Rows.namesTotalSpec) Tab.own started (by kernel_rfl) Tryd.func6
    (witness_row_at (enc := enc) (C := Tryd.checked) false (Tab.laidWorld os) #[.slice none 0 0, .slice none 0 0, .slice none 0 0] rfl (by kernel_rfl) (by kernel_rfl) (by kernel_rfl)
      (OpenSpec.preRow_of_cond 8 hx (by kernel_rfl) (fun k hk => by cases hk; kernel_rfl) (by kernel_rfl) (laid_met os))) ?_
  intro W base args ds gs before hval hW _ hcond hzz hL hsh _
  refine Rw.post_law (tb := 4) (s := Rows.namesTotalSpec) Tab.laidOut (by kernel_rfl) rfl Tryd.underlying4 rfl (fun ds hds => ?_) hW ?_
  · rw [Tryd.params6] at hds
    match ds, hds with
    | [d0, d1, d2], _ => rfl
  obtain ⟨p, hA, hz, rfl⟩ := Rw.args_of (s := Rows.OpenSpec.upto Rows.namesTotalSpec) rfl hW hzz
  have hB := Rw.bulk_le (hcond _ rfl)
  have hm := Tab.maxOk hsh
  clear hcond hzz hW hL hsh
  rw [Tryd.params6] at hA hz hval
  obtain ⟨v0, vs0, ds0, p0, xs, hargs, ⟨A0, c0, hK0, hc0, hr0⟩, ⟨hl0, hs0⟩, hA1, hB1⟩ := Rw.open_argB (Rw.opensB_slice Tryd.underlying22 (by kernel_rfl) (Rw.opensB_string Tryd.underlying9)) hA hB
  obtain ⟨v1, vs1, ds1, p1, ys, rfl, ⟨A1, c1, hK1, hc1, hr1⟩, ⟨hl1, hs1⟩, hA2, hB2⟩ := Rw.open_argB (Rw.opensB_slice Tryd.underlying22 (by kernel_rfl) (Rw.opensB_string Tryd.underlying9)) hA1 hB1
  obtain ⟨v2, vs2, ds2, p2, zs, rfl, ⟨A2, c2, hK2, hc2, hr2⟩, ⟨hl2, hs2⟩, hA3, hB3⟩ := Rw.open_argB (Rw.opensB_slice Tryd.underlying22 (by kernel_rfl) (Rw.opensB_string Tryd.underlying9)) hA2 hB2
  obtain rfl := Rw.open_end (args := args) hA3
  obtain rfl : args = #[v0, v1, v2] := by cases args; simp_all
  obtain ⟨a0, n0, d0, rfl⟩ := okWide_slice Tryd.underlying22 (hval 0 22 _ rfl rfl)
  have e0 : [Value.slice a0 n0 d0] = [Value.slice A0 xs.length c0] := hK0
  injection e0 with e0
  injection e0 with e0a e0b e0c
  subst e0a e0b e0c
  obtain ⟨a1, n1, d1, rfl⟩ := okWide_slice Tryd.underlying22 (hval 1 22 _ rfl rfl)
  have e1 : [Value.slice a1 n1 d1] = [Value.slice A1 ys.length c1] := hK1
  injection e1 with e1
  injection e1 with e1a e1b e1c
  subst e1a e1b e1c
  obtain ⟨a2, n2, d2, rfl⟩ := okWide_slice Tryd.underlying22 (hval 2 22 _ rfl rfl)
  have e2 : [Value.slice a2 n2 d2] = [Value.slice A2 zs.length c2] := hK2
  injection e2 with e2
  injection e2 with e2a e2b e2c
  subst e2a e2b e2c
  exact law_any _ _ _ _ _ _ _ _ _ W hr0 hc0 hl0 hs0 hr1 hc1 hl1 hs1 hr2 hc2 hl2 hs2 hm
theorem said : Rows.NamesTotalUptoSaid :=
  OpenClaim.holds_of_cond 6 Tryd.f6 rfl rfl rfl rfl rfl rfl rfl ⟨rfl, rfl, rfl, rfl, rfl⟩ rfl rfl rfl rfl rfl (by kernel_rfl) Tryd.func6 (by kernel_rfl)
    (of_decide_eq_true (by kernel_rfl)) (by unfold Func.isWrapper; first | (rw [if_pos (by decide +kernel)]; kernel_rfl) | (rw [if_neg (by decide +kernel)]; exact ⟨rfl, rfl⟩))
    (fun os started H enc _ F => by rw [OpenClaim.pre_eq_preRow]; exact lifted os started H enc F)
theorem plain (f : FuncId) (fn : Func) (hf : Tryd.pinned.checked.prog.funcNamed "torrent/torrentlaw5.NamesTotal" = some f) (hfn : Tryd.pinned.checked.prog.funcs[f]? = some fn) :
    false = Tryd.pinned.checked.prog.looks [] ∧ ∀ (j : Nat) t, fn.params[j]? = some t → Tryd.pinned.checked.prog.wantsStandIn t = false := by
  obtain rfl : f = 6 := Option.some.inj ((show Tryd.prog.funcNamed "torrent/torrentlaw5.NamesTotal" = some 6 by kernel_rfl).symm.trans hf) |>.symm
  obtain rfl : fn = Tryd.f6 := (Option.some.inj (Tryd.func6.symm.trans hfn)).symm
  refine ⟨by kernel_rfl, fun j t ht => ?_⟩
  have hall : Tryd.f6.params.toList.all (fun t => !Tryd.pinned.checked.prog.wantsStandIn t) = true := by kernel_rfl
  have := List.all_eq_true.1 hall t (by simpa using Array.mem_of_getElem? ht)
  simpa using this
/-- The statement. -/
theorem proved : Rows.NamesTotalUptoCardSaid :=
  Claim7.holds_tied_plain_at .later [] _ _ _ _ said (fun _ h => by cases h) (by kernel_rfl) (fun _ h => by cases h) namesTotalUpto_row_tie rfl ⟨rfl, rfl⟩ (by kernel_rfl) rfl plain (by kernel_rfl)
#print axioms proved
end Go.Proofs.YtgbeppbdebibiaaDoor.LawNamesTotal
