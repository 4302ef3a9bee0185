/- Layer 14, walks: the program's body and Need. -/
import Derived.Test.YtjeeakhgjcbhaaaSw
set_option linter.unusedVariables false
set_option linter.unusedSimpArgs false
namespace Go.Proofs.Ytjeeakhgjcbhaaa
open Go.RowKit Go.Proofs.YtjeeakhgjcbhaaaW.PrintWords
namespace Sn
open Wd Fl P2 PStoreNeeds
set_option maxHeartbeats 1000000 in
set_option maxRecDepth 100000 in
theorem body_any (b : Int) (hb : 64 ≤ b ∧ b ≤ 16384) (A0 : Option Addr) (c0 : Nat) (xs : List Pc) (w : World) (hr : KP.C w A0 xs.length xs) (hl : xs.length ≤ 65536) (hok : xs.all (okP b) = true) :
    Calls Try.prog 52 #[.slice A0 xs.length c0] w fun e w' => e = .returned (.int .i64 (total xs)) ∧ Below w.heap.size w w' := by
  have HR := Aside0.mk hr
  have HOK := Lib.hid hok
  clear hr hok
  go_enter Try.func52, Try.ntmps52
  go_wp2
  go_loopw [3, 8] (fun s i wr => ∃ k : Nat, k ≤ xs.length ∧ i = .int .i64 k ∧ s = .int .i64 (total (xs.take k)) ∧ Aside0 (Below w.heap.size w wr)) (fun _ i _ => xs.length - (intOf i).toNat)
  case atStart => exact ⟨0, by omega, rfl, by simp [total_nil], ⟨Below.refl _ _⟩⟩
  case round =>
    obtain ⟨k, hk, rfl, rfl, HB⟩ := hrel
    by_cases hlt : k < xs.length
    · skip
      obtain ⟨ad, e0, hx⟩ := at_pc HR.out k hlt
      cases e0
      have HX : Hid (∀ j u, (encP (px xs k))[j]? = some u → wr.cell? (ad.add (k * 35 + j)) = some u) := Lib.hid fun j u h => cell_stay HB.out (hx j u h)
      clear hx
      have HI : Hid ((Try.prog.info? 38).map (·.size) = some (encP (px xs k)).length) := Lib.hid (by rw [encP_len]; kernel_rfl)
      have HJ : Hid ((Try.prog.info? 38).map (·.size) = some (encP (px xs k)).toArray.size) := Lib.hid (by rw [List.size_toArray, encP_len]; kernel_rfl)
      have HNN : Hid (35 = (encP (px xs k)).toArray.size) := Lib.hid (by rw [List.size_toArray, encP_len])
      have hq0 : (encP (px xs k)).toArray[0]? = some (.int .i64 (px xs k).len) := rfl
      have hq1 : (encP (px xs k)).toArray[1]? = some (.int .i64 (px xs k).leaves) := rfl
      have hlen := okP_len hb (okP_mem HOK.out hlt)
      have HS : Hid (store_sectors.f (px xs k).len = some (secV (px xs k).len)) := Lib.hid (congrArg some (sec_eq hlen.1 hlen.2))
      have HT := Lib.hid (total_take xs k hlt)
      have hbd := total_bd hb _ (all_taken HOK.out k)
      have hkl : (xs.take k).length ≤ 65536 := by rw [List.length_take]; omega
      have hsec : 0 ≤ secV (px xs k).len ∧ secV (px xs k).len ≤ 262144 := by unfold secV; omega
      obtain ⟨t0, t1⟩ : 0 ≤ total (xs.take k) ∧ total (xs.take k) ≤ 17179869184 := by omega
      obtain ⟨s0, s1⟩ := hsec
      clear hbd hkl hlen hq1
      generalize total (xs.take k) = t at *
      generalize secV (px xs k).len = s at *
      generalize (px xs k).len = ln at *
      generalize px xs k = p at *
      go_wp2_with (first | ((with_reducible refine Fl.wpList_load rfl 38 (.tmp 10) rfl (ad.add (k * 35)) ?lx (encP p) _ ?lc Try.underlying38 rfl ?li ?_); (case lx => rfl); (case lc => exact fun j v h => (by rw [Go.Deep.add_add]; exact HX.out j v h)); (case li => exact HI.out)) | ((with_reducible refine Fl.wpList_store_fresh rfl 38 (.tmp 5) (.tmp 11) rfl 38 _ (encP p).toArray ?sx ?sy ?si ?so ?s1 ?_); (case sx => rfl); (case sy => rfl); (case si => exact HJ.out); (case so => exact HNN.out); (case s1 => exact Fl.all_one (encP_one p))))
      go_at_call 80
      refine (store_sectors.calls ln s _ HS.out).mono ?_
      rintro e w2 ⟨rfl, hw2⟩
      obtain ⟨q2, rfl⟩ := drewn hw2
      clear hw2
      go_wp2
      go_roundw
      case rel => exact ⟨k + 1, by omega, by go_num, by rw [HT.out], ⟨below_drewN (below_alloc HB.out _) _⟩⟩
      case measure => simp [intOf]; omega
    · obtain rfl : k = xs.length := by omega
      go_wp2
      go_ret
      exact ⟨ret_i (by rw [List.take_length]), HB.out⟩
set_option maxHeartbeats 2000000 in
set_option maxRecDepth 100000 in
theorem need_any (b wd : Int) (A0 : Option Addr) (c0 : Nat) (xs : List Pc) (w : World) (hr : KP.C w A0 xs.length xs) (hl : xs.length * 56 ≤ 140737488355328) :
    Calls Try.prog 16 #[.agg #[.int .i64 b, .int .i64 wd], .slice A0 xs.length c0] w fun e w' => e = .returned (.tuple #[.int .i64 (needN b wd xs), .int .i64 (needE b wd xs)]) ∧ Below w.heap.size w w' := by
  have HR := Aside0.mk hr
  have HG := Lib.hid (good_val b wd)
  have HE : Hid (needE b wd xs = if scE b wd = 0 then (if fitB b xs = true then 0 else 142) else 10) := Lib.hid rfl
  have HN : Hid (needN b wd xs = if needE b wd xs = 0 then (xs.length : Int) + 4 + total xs else 0) := Lib.hid rfl
  have HP := Lib.hid (scE_bd b wd)
  clear hr
  generalize scE b wd = se at *
  by_cases h0 : se = 0
  · obtain ⟨b1, b2⟩ := HP.out h0
    have T1 : (se != 0) = false := by simp [h0]
    rw [if_pos h0] at HE
    clear h0 HP
    by_cases hbig : 65536 < xs.length
    · have HFB : Hid (fitB b xs = false) := Lib.hid (by unfold fitB; rw [Bool.and_eq_false_iff]; exact .inl (decide_eq_false (by omega)))
      go_enter Try.func16, Try.ntmps16
      go_wp2_with fail
      go_at_call 51
      refine (digest_Good.calls 1 b wd se _ HG.out).mono ?_
      rintro e w1 ⟨rfl, hb1⟩
      go_wp2
      go_ret2
      exact ⟨by rw [HN.out, HE.out, HFB.out]; rfl, below_step (below_alloc (Below.refl _ _) _) hb1⟩
    have HF : Hid (fitB b xs = xs.all (okP b)) := Lib.hid (by unfold fitB; rw [decide_eq_true (by omega), Bool.true_and])
    have HBD : Hid (∀ w : World, xs.all (okP b) = true → KP.C w A0 xs.length xs → Calls Try.prog 52 #[.slice A0 xs.length c0] w fun e w' => e = .returned (.int .i64 (total xs)) ∧ Below w.heap.size w w') := Lib.hid fun w h0 h => body_any b ⟨b1, b2⟩ A0 c0 xs w h (by omega) h0
    go_enter Try.func16, Try.ntmps16
    go_wp2_with fail
    go_at_call 51
    refine (digest_Good.calls 1 b wd se _ HG.out).mono ?_
    rintro e w1 ⟨rfl, hb1⟩
    have HB0 := Aside0.mk (below_step (below_alloc (Below.refl _ _) _) hb1)
    have HX0 : Aside0 (w1.cell? ⟨w.heap.size, 0, none⟩ = some (.int .i64 b)) := ⟨cell_stay hb1 (by rw [World.cell?_alloc_mark]; rfl)⟩
    clear hb1
    go_wp2
    go_loopw [16] (fun i wr => ∃ k : Nat, k ≤ xs.length ∧ i = .int .i64 k ∧ Hid ((xs.take k).all (okP b) = true) ∧ Aside0 (wr.cell? ⟨w.heap.size, 0, none⟩ = some (.int .i64 b)) ∧ Aside0 (Below w.heap.size w wr)) (fun i _ => xs.length - (intOf i).toNat)
    case atStart => exact ⟨0, by omega, rfl, Lib.hid rfl, HX0, HB0⟩
    case round =>
      clear HB0 HX0
      obtain ⟨k, hk, rfl, HC, HXb, HB⟩ := hrel
      have hbox := HXb.out
      have hsz : w.heap.size < wr.heap.size := World.block_lt_of_cell? wr _ hbox
      by_cases hlt : k < xs.length
      · skip
        obtain ⟨ad, e0, hx⟩ := at_pc HR.out k hlt
        cases e0
        have HX : Hid (∀ j u, (encP (px xs k))[j]? = some u → wr.cell? (ad.add (k * 35 + j)) = some u) := Lib.hid fun j u h => cell_stay HB.out (hx j u h)
        clear hx
        have HI : Hid ((Try.prog.info? 38).map (·.size) = some (encP (px xs k)).length) := Lib.hid (by rw [encP_len]; kernel_rfl)
        have HJ : Hid ((Try.prog.info? 38).map (·.size) = some (encP (px xs k)).toArray.size) := Lib.hid (by rw [List.size_toArray, encP_len]; kernel_rfl)
        have HNN : Hid (35 = (encP (px xs k)).toArray.size) := Lib.hid (by rw [List.size_toArray, encP_len])
        have hq0 : (encP (px xs k)).toArray[0]? = some (.int .i64 (px xs k).len) := rfl
        have hq1 : (encP (px xs k)).toArray[1]? = some (.int .i64 (px xs k).leaves) := rfl
        have HT : Hid ((xs.take (k + 1)).all (okP b) = ((xs.take k).all (okP b) && okP b (px xs k))) := Lib.hid (all_take xs k hlt)
        have HNO := Lib.hid (all_not (b := b) hlt)
        have HOK : Hid (okP b (px xs k) = (powB 0 11 (px xs k).leaves && decide (1 ≤ (px xs k).len) && decide ((px xs k).len ≤ (px xs k).leaves * b))) := Lib.hid rfl
        generalize okP b (px xs k) = ok at *
        generalize (px xs k).leaves = lv at *
        generalize (px xs k).len = ln at *
        generalize px xs k = p at *
        have HFB : Hid (ok = false → fitB b xs = false) := Lib.hid fun h => by rw [HF.out]; exact HNO.out h
        clear HNO
        by_cases g0 : lv < 1
        · have G : Hid (fitB b xs = false) := Lib.hid (HFB.out (by rw [HOK.out, powB_lo (by simpa using g0)]; rfl))
          have T2 : decide (lv < 1) = true := decide_eq_true g0
          clear HOK HT HFB g0
          have HFB := G
          clear G
          go_wp2_with (first | ((with_reducible refine Fl.wpList_load rfl 38 (.tmp 18) rfl (ad.add (k * 35)) ?lx (encP p) _ ?lc Try.underlying38 rfl ?li ?_); (case lx => rfl); (case lc => exact fun j v h => (by rw [Go.Deep.add_add]; exact HX.out j v h)); (case li => exact HI.out)) | ((with_reducible refine Fl.wpList_store_fresh rfl 38 (.tmp 7) (.tmp 19) rfl 38 _ (encP p).toArray ?sx ?sy ?si ?so ?s1 ?_); (case sx => rfl); (case sy => rfl); (case si => exact HJ.out); (case so => exact HNN.out); (case s1 => exact Fl.all_one (encP_one p))))
          go_ret2
          exact ⟨by rw [HN.out, HE.out, HFB.out]; rfl, below_alloc HB.out _⟩
        · have T2 : decide (lv < 1) = false := decide_eq_false g0
          by_cases g1 : 1024 < lv
          · have G : Hid (fitB b xs = false) := Lib.hid (HFB.out (by rw [HOK.out, powB_hi (by simpa using g1)]; rfl))
            have T3 : decide (1024 < lv) = true := decide_eq_true g1
            clear HOK HT HFB g1
            have HFB := G
            clear G
            go_wp2_with (first | ((with_reducible refine Fl.wpList_load rfl 38 (.tmp 18) rfl (ad.add (k * 35)) ?lx (encP p) _ ?lc Try.underlying38 rfl ?li ?_); (case lx => rfl); (case lc => exact fun j v h => (by rw [Go.Deep.add_add]; exact HX.out j v h)); (case li => exact HI.out)) | ((with_reducible refine Fl.wpList_store_fresh rfl 38 (.tmp 7) (.tmp 19) rfl 38 _ (encP p).toArray ?sx ?sy ?si ?so ?s1 ?_); (case sx => rfl); (case sy => rfl); (case si => exact HJ.out); (case so => exact HNN.out); (case s1 => exact Fl.all_one (encP_one p))))
            go_ret2
            exact ⟨by rw [HN.out, HE.out, HFB.out]; rfl, below_alloc HB.out _⟩
          · have T3 : decide (1024 < lv) = false := decide_eq_false g1
            have AP := Lib.hid (and_pow 0 11 (by omega) (by omega) lv (by simp; omega) (by simp; omega))
            cases hpb : powB 0 11 lv with
            | false =>
              have G : Hid (fitB b xs = false) := Lib.hid (HFB.out (by rw [HOK.out, hpb]; rfl))
              have T4 : (Go.bits .and .i64 lv (lv - 1) != 0) = true := by rw [AP.out, hpb]; rfl
              clear HOK HT HFB hpb AP
              have HFB := G
              clear G
              go_wp2_with (first | ((with_reducible refine Fl.wpList_load rfl 38 (.tmp 18) rfl (ad.add (k * 35)) ?lx (encP p) _ ?lc Try.underlying38 rfl ?li ?_); (case lx => rfl); (case lc => exact fun j v h => (by rw [Go.Deep.add_add]; exact HX.out j v h)); (case li => exact HI.out)) | ((with_reducible refine Fl.wpList_store_fresh rfl 38 (.tmp 7) (.tmp 19) rfl 38 _ (encP p).toArray ?sx ?sy ?si ?so ?s1 ?_); (case sx => rfl); (case sy => rfl); (case si => exact HJ.out); (case so => exact HNN.out); (case s1 => exact Fl.all_one (encP_one p))))
              go_ret2
              exact ⟨by rw [HN.out, HE.out, HFB.out]; rfl, below_alloc HB.out _⟩
            | true =>
              have T4 : (Go.bits .and .i64 lv (lv - 1) != 0) = false := by rw [AP.out, hpb]; rfl
              rw [hpb] at HOK
              have hmb := mul_bd (l := lv) (by omega) (by omega) b1 b2
              clear hpb AP
              have WM : Hid (IntKind.i64.wrap (lv * b) = lv * b) := Lib.hid (IntWalk.i64_in _ (by omega))
              by_cases g3 : ln < 1
              · have G : Hid (fitB b xs = false) := Lib.hid (HFB.out (by rw [HOK.out]; simp; intro; omega))
                have T5 : decide (ln < 1) = true := decide_eq_true g3
                clear HOK HT HFB g3 hmb
                have HFB := G
                clear G
                go_wp2_with (first | ((with_reducible refine Fl.wpList_load rfl 38 (.tmp 18) rfl (ad.add (k * 35)) ?lx (encP p) _ ?lc Try.underlying38 rfl ?li ?_); (case lx => rfl); (case lc => exact fun j v h => (by rw [Go.Deep.add_add]; exact HX.out j v h)); (case li => exact HI.out)) | ((with_reducible refine Fl.wpList_store_fresh rfl 38 (.tmp 7) (.tmp 19) rfl 38 _ (encP p).toArray ?sx ?sy ?si ?so ?s1 ?_); (case sx => rfl); (case sy => rfl); (case si => exact HJ.out); (case so => exact HNN.out); (case s1 => exact Fl.all_one (encP_one p))))
                go_ret2
                exact ⟨by rw [HN.out, HE.out, HFB.out]; rfl, below_alloc HB.out _⟩
              · have T5 : decide (ln < 1) = false := decide_eq_false g3
                by_cases g4 : lv * b < ln
                · have G : Hid (fitB b xs = false) := Lib.hid (HFB.out (by rw [HOK.out]; simp; intro; omega))
                  have T6 : decide (lv * b < ln) = true := decide_eq_true g4
                  clear HOK HT HFB g3 hmb
                  have HFB := G
                  have wm := WM.out
                  clear G
                  go_wp2_with (first | ((with_reducible refine Fl.wpList_load rfl 38 (.tmp 18) rfl (ad.add (k * 35)) ?lx (encP p) _ ?lc Try.underlying38 rfl ?li ?_); (case lx => rfl); (case lc => exact fun j v h => (by rw [Go.Deep.add_add]; exact HX.out j v h)); (case li => exact HI.out)) | ((with_reducible refine Fl.wpList_store_fresh rfl 38 (.tmp 7) (.tmp 19) rfl 38 _ (encP p).toArray ?sx ?sy ?si ?so ?s1 ?_); (case sx => rfl); (case sy => rfl); (case si => exact HJ.out); (case so => exact HNN.out); (case s1 => exact Fl.all_one (encP_one p))))
                  go_ret2
                  exact ⟨by rw [HN.out, HE.out, HFB.out]; rfl, below_alloc HB.out _⟩
                · have T6 : decide (lv * b < ln) = false := decide_eq_false g4
                  have HN2 : Hid ((xs.take (k + 1)).all (okP b) = true) := Lib.hid (by rw [HT.out, HC.out, HOK.out]; simp; omega)
                  clear HOK HT HFB g3 hmb
                  have wm := WM.out
                  go_wp2_with (first | ((with_reducible refine Fl.wpList_load rfl 38 (.tmp 18) rfl (ad.add (k * 35)) ?lx (encP p) _ ?lc Try.underlying38 rfl ?li ?_); (case lx => rfl); (case lc => exact fun j v h => (by rw [Go.Deep.add_add]; exact HX.out j v h)); (case li => exact HI.out)) | ((with_reducible refine Fl.wpList_store_fresh rfl 38 (.tmp 7) (.tmp 19) rfl 38 _ (encP p).toArray ?sx ?sy ?si ?so ?s1 ?_); (case sx => rfl); (case sy => rfl); (case si => exact HJ.out); (case so => exact HNN.out); (case s1 => exact Fl.all_one (encP_one p))))
                  go_roundw
                  case rel => exact ⟨k + 1, by omega, by go_num, HN2, ⟨cell_stay (below_alloc (Below.refl _ _) _) hbox⟩, ⟨below_alloc HB.out _⟩⟩
                  case measure => simp [intOf]; omega
      · obtain rfl : k = xs.length := by omega
        have HA : Hid (xs.all (okP b) = true) := Lib.hid (by rw [← HC.out, List.take_length])
        have HT : Hid (0 ≤ total xs ∧ total xs ≤ 17179869184) := Lib.hid (by have := total_bd ⟨b1, b2⟩ xs HA.out; omega)
        obtain ⟨t0, t1⟩ := HT.out
        have HFT : Hid (fitB b xs = true) := Lib.hid (by rw [HF.out, HA.out])
        clear HC
        generalize total xs = t at *
        go_wp2_with fail
        go_at_call 52
        refine (HBD.out _ HA.out (Kd.C_below HR.out HB.out)).mono ?_
        rintro e w2 ⟨rfl, hb2⟩
        go_wp2
        go_ret2
        exact ⟨by rw [HN.out, HE.out, HFT.out]; rfl, below_step HB.out hb2⟩
  · have T1 : (se != 0) = true := by simp [h0]
    rw [if_neg h0] at HE
    clear h0 HP
    go_enter Try.func16, Try.ntmps16
    go_wp2_with fail
    go_at_call 51
    refine (digest_Good.calls 1 b wd se _ HG.out).mono ?_
    rintro e w1 ⟨rfl, hb1⟩
    go_wp2
    go_ret2
    exact ⟨by rw [HN.out, HE.out]; rfl, below_step (below_alloc (Below.refl _ _) _) hb1⟩
end Sn
end Go.Proofs.Ytjeeakhgjcbhaaa
