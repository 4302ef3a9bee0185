/- Layer 14, walks: the reference's fits, ahead and Need. -/
import Derived.Test.YtjeeakhgjcbhaaaSp
set_option linter.unusedVariables false
set_option linter.unusedSimpArgs false
namespace Go.Proofs.Ytjeeakhgjcbhaaa
open Go.RowKit Go.Proofs.YtjeeakhgjcbhaaaW.PrintWords
namespace Sn
open Wd Fl P2 PStoreNeeds
theorem drewn {w w' : World} (h : Drawn0 w w') : ∃ n, w' = w.drewN n := h.out
theorem all_take {b : Int} (xs : List Pc) (k : Nat) (h : k < xs.length) : (xs.take (k + 1)).all (okP b) = ((xs.take k).all (okP b) && okP b (px xs k)) := by
  rw [show xs.take (k + 1) = xs.take k ++ [px xs k] from getD_take xs k pc0 h, List.all_append]; simp
theorem px_mem {xs : List Pc} {k : Nat} (h : k < xs.length) : px xs k ∈ xs := nth_mem pc0 xs k h
theorem all_not {b : Int} {xs : List Pc} {k : Nat} (h : k < xs.length) (hf : okP b (px xs k) = false) : xs.all (okP b) = false := by
  rw [← Bool.not_eq_true, List.all_eq_true]
  intro hh
  rw [hh _ (px_mem h)] at hf; cases hf
set_option maxHeartbeats 1000000 in
set_option maxRecDepth 100000 in
theorem fits_any (b wd : Int) (A0 : Option Addr) (c0 : Nat) (xs : List Pc) (w : World) (hr : KP.C w A0 xs.length xs) (hb1 : 64 ≤ b) (hb2 : b ≤ 16384) (hl : xs.length * 56 ≤ 140737488355328) :
    Calls Try.prog 49 #[.agg #[.int .i64 b, .int .i64 wd], .slice A0 xs.length c0] w fun e w' => e = .returned (.bool (fitB b xs)) ∧ Below w.heap.size w w' := by
  have HR := Aside0.mk hr
  clear hr
  by_cases hbig : 65536 < xs.length
  · have HF : Hid (fitB b xs = false) := Lib.hid (by unfold fitB; rw [Bool.and_eq_false_iff]; exact .inl (decide_eq_false (by omega)))
    go_enter Try.func49, Try.ntmps49
    go_wp2
    go_ret
    exact ⟨ret_b HF.out.symm, below_alloc (Below.refl _ _) _⟩
  have HF : Hid (fitB b xs = xs.all (okP b)) := Lib.hid (by unfold fitB; rw [decide_eq_true (by omega), Bool.true_and])
  go_enter Try.func49, Try.ntmps49
  go_wp2
  go_loopw [5] (fun i wr => ∃ k : Nat, k ≤ xs.length ∧ i = .int .i64 k ∧ Hid ((xs.take k).all (okP b) = true) ∧ Aside0 (wr.cell? ⟨w.heap.size, 0, none⟩ = some (.int .i64 b)) ∧ Aside0 (Below w.heap.size w wr)) (fun i _ => xs.length - (intOf i).toNat)
  case atStart => exact ⟨0, by omega, rfl, Lib.hid rfl, ⟨by rw [World.cell?_alloc_mark]; rfl⟩, ⟨below_alloc (Below.refl _ _) _⟩⟩
  case round =>
    obtain ⟨k, hk, rfl, HC, HX, HB⟩ := hrel
    have hbox := HX.out
    by_cases hlt : k < xs.length
    · obtain ⟨ad, e0, hx⟩ := at_pc HR.out k hlt
      cases e0
      have hx0 : wr.cell? (ad.add (k * 35)) = some (.int .i64 (px xs k).len) := cell_stay HB.out (by have := hx 0 _ rfl; simpa using this)
      have hx1 : wr.cell? ⟨(ad.add (k * 35)).block, (ad.add (k * 35)).off + 1, none⟩ = some (.int .i64 (px xs k).leaves) := cell_stay HB.out (fcell 1 (by omega) (hx 1 _ rfl))
      clear hx
      have HT : Hid ((xs.take (k + 1)).all (okP b) = ((xs.take k).all (okP b) && okP b (px xs k))) := Lib.hid (all_take xs k hlt)
      have HNO := Lib.hid (all_not (b := b) hlt)
      have HLV := Lib.hid (leaves_val (px xs k).leaves)
      have HOK : Hid (okP b (px xs k) = (powB 0 11 (px xs k).leaves && decide (1 ≤ (px xs k).len) && decide ((px xs k).len ≤ (px xs k).leaves * b))) := Lib.hid rfl
      have HP := Lib.hid (pow11 (n := (px xs k).leaves))
      generalize okP b (px xs k) = ok at *
      generalize (px xs k).leaves = lv at *
      generalize (px xs k).len = ln at *
      cases hpb : powB 0 11 lv with
      | false =>
        rw [hpb] at HLV HOK
        have HN : Hid (xs.all (okP b) = false) := Lib.hid (HNO.out (by rw [HOK.out]; rfl))
        clear hpb HOK HNO HT HP
        go_wp2_with fail
        go_at_call 78
        refine (torrentref14_leaves.calls 12 lv false _ HLV.out).mono ?_
        rintro e w2 ⟨rfl, hw2⟩
        obtain ⟨q, rfl⟩ := drewn hw2
        clear hw2
        go_wp2_with fail
        go_quiet (fail)
        go_wp2
        go_ret
        exact ⟨ret_b (by rw [HF.out, HN.out]), by simp only [World.drewN_drewN]; exact below_drewN HB.out _⟩
      | true =>
        rw [hpb] at HLV HOK
        obtain ⟨l1, l2⟩ := HP.out hpb
        have hmb := mul_bd l1 l2 hb1 hb2
        have WM : Hid (IntKind.i64.wrap (lv * b) = lv * b) := Lib.hid (IntWalk.i64_in _ (by omega))
        clear hpb HP
        by_cases g1 : ln < 1
        · have HN : Hid (xs.all (okP b) = false) := Lib.hid (HNO.out (by rw [HOK.out]; simp; intro; omega))
          have T1 : decide (ln < 1) = true := decide_eq_true g1
          clear HOK HNO HT hmb g1
          go_wp2_with fail
          go_at_call 78
          refine (torrentref14_leaves.calls 12 lv true _ HLV.out).mono ?_
          rintro e w2 ⟨rfl, hw2⟩
          obtain ⟨q, rfl⟩ := drewn hw2
          clear hw2
          go_wp2_with fail
          go_quiet (fail)
          go_wp2
          go_ret
          exact ⟨ret_b (by rw [HF.out, HN.out]), by simp only [World.drewN_drewN]; exact below_drewN HB.out _⟩
        · have T1 : decide (ln < 1) = false := decide_eq_false g1
          by_cases g2 : lv * b < ln
          · have HN : Hid (xs.all (okP b) = false) := Lib.hid (HNO.out (by rw [HOK.out]; simp; intro; omega))
            have T2 : decide (lv * b < ln) = true := decide_eq_true g2
            clear HOK HNO HT hmb g1 g2
            go_wp2_with fail
            go_at_call 78
            refine (torrentref14_leaves.calls 12 lv true _ HLV.out).mono ?_
            rintro e w2 ⟨rfl, hw2⟩
            obtain ⟨q, rfl⟩ := drewn hw2
            clear hw2
            go_wp2_with fail
            have wm := WM.out
            go_quiet (fail)
            clear wm
            go_wp2
            go_ret
            exact ⟨ret_b (by rw [HF.out, HN.out]), by simp only [World.drewN_drewN]; exact below_drewN HB.out _⟩
          · have HN : Hid ((xs.take (k + 1)).all (okP b) = true) := Lib.hid (by rw [HT.out, HC.out, HOK.out]; simp; omega)
            have T2 : decide (lv * b < ln) = false := decide_eq_false g2
            clear HOK HNO HT hmb g1 g2
            go_wp2_with fail
            go_at_call 78
            refine (torrentref14_leaves.calls 12 lv true _ HLV.out).mono ?_
            rintro e w2 ⟨rfl, hw2⟩
            obtain ⟨q, rfl⟩ := drewn hw2
            clear hw2
            go_wp2_with fail
            have wm := WM.out
            go_quiet (fail)
            clear wm
            go_wp2
            go_roundw
            case rel => exact ⟨k + 1, by omega, by go_num, HN, ⟨by simpa using hbox⟩, ⟨by first | exact below_drewN HB.out _ | (simp only [World.drewN_drewN]; exact below_drewN HB.out _)⟩⟩
            case measure => simp [intOf]; omega
    · obtain rfl : k = xs.length := by omega
      go_wp2
      go_ret
      exact ⟨ret_b (by rw [HF.out, ← HC.out, List.take_length]), HB.out⟩
theorem scE_bd (b wd : Int) (h : scE b wd = 0) : 64 ≤ b ∧ b ≤ 16384 := by
  unfold scE at h
  by_cases g : powB 6 9 b = true ∧ 1 ≤ wd ∧ wd ≤ 32
  · exact pow9 g.1
  · rw [if_neg g] at h; cases h
theorem okP_mem {b : Int} {xs : List Pc} (h : xs.all (okP b) = true) {k : Nat} (hk : k < xs.length) : okP b (px xs k) = true := List.all_eq_true.1 h _ (px_mem hk)
theorem total_take (xs : List Pc) (k : Nat) (hk : k < xs.length) : total (xs.take (k + 1)) = total (xs.take k) + secV (px xs k).len := by
  rw [show xs.take (k + 1) = xs.take k ++ [px xs k] from getD_take xs k pc0 hk, total_snoc]
theorem all_taken {b : Int} {xs : List Pc} (h : xs.all (okP b) = true) (k : Nat) : (xs.take k).all (okP b) = true := by
  rw [List.all_eq_true] at *
  exact fun x hx => h x (List.mem_of_mem_take hx)
set_option maxHeartbeats 1000000 in
set_option maxRecDepth 100000 in
theorem ahead_any (b : Int) (hb : 64 ≤ b ∧ b ≤ 16384) (A0 : Option Addr) (c0 : Nat) (xs : List Pc) (w : World) (hr : KP.C w A0 xs.length xs) (hl : xs.length ≤ 65536) (hok : xs.all (okP b) = true) :
    Calls Try.prog 50 #[.slice A0 xs.length c0, .int .i64 (xs.length : Nat)] w fun e w' => e = .returned (.int .i64 (total xs)) ∧ ∃ q, w' = w.drewN q := by
  have HR := Aside0.mk hr
  have HOK := Lib.hid hok
  clear hr hok
  go_enter Try.func50, Try.ntmps50
  go_wp2
  go_loopw [5, 6] (fun s i wr => ∃ k q : Nat, k ≤ xs.length ∧ i = .int .i64 k ∧ s = .int .i64 (total (xs.take k)) ∧ wr = w.drewN q) (fun _ i _ => xs.length - (intOf i).toNat)
  case atStart => exact ⟨0, 0, by omega, rfl, by simp [total_nil], rfl⟩
  case round =>
    obtain ⟨k, q, hk, rfl, rfl, rfl⟩ := hrel
    by_cases hlt : k < xs.length
    · obtain ⟨ad, e0, hx⟩ := at_pc HR.out k hlt
      cases e0
      have hx0 : w.cell? (ad.add (k * 35)) = some (.int .i64 (px xs k).len) := by have := hx 0 _ rfl; simpa using this
      clear hx
      have hlen := okP_len hb (okP_mem HOK.out hlt)
      have HS : Hid (torrentref14_sectors.f (px xs k).len = some (secV (px xs k).len)) := Lib.hid (congrArg some (sec_eq hlen.1 hlen.2))
      have HT := Lib.hid (total_take xs k hlt)
      have hbd := total_bd hb _ (all_taken HOK.out k)
      have hkl : (xs.take k).length ≤ 65536 := by rw [List.length_take]; omega
      have hsec : 0 ≤ secV (px xs k).len ∧ secV (px xs k).len ≤ 262144 := by unfold secV; omega
      obtain ⟨t0, t1⟩ : 0 ≤ total (xs.take k) ∧ total (xs.take k) ≤ 17179869184 := by omega
      obtain ⟨s0, s1⟩ := hsec
      clear hbd hkl hlen
      generalize total (xs.take k) = t at *
      generalize secV (px xs k).len = s at *
      generalize (px xs k).len = ln at *
      go_wp2_with fail
      go_at_call 79
      refine (torrentref14_sectors.calls ln s _ HS.out).mono ?_
      rintro e w2 ⟨rfl, hw2⟩
      obtain ⟨q2, rfl⟩ := drewn hw2
      clear hw2
      go_wp2
      go_roundw
      case rel => exact ⟨k + 1, q + q2, by omega, by go_num, by rw [HT.out], by first | rfl | rw [World.drewN_drewN]⟩
      case measure => simp [intOf]; omega
    · obtain rfl : k = xs.length := by omega
      go_wp2
      go_ret
      exact ⟨ret_i (by rw [List.take_length]), q, rfl⟩
set_option maxRecDepth 100000 in
theorem refNeed_any (b wd : Int) (A0 : Option Addr) (c0 : Nat) (xs : List Pc) (w : World) (hr : KP.C w A0 xs.length xs) (hl : xs.length * 56 ≤ 140737488355328) :
    Calls Try.prog 15 #[.agg #[.int .i64 b, .int .i64 wd], .slice A0 xs.length c0] w fun e w' => e = .returned (.tuple #[.int .i64 (needN b wd xs), .int .i64 (needE b wd xs)]) ∧ Below w.heap.size w w' := by
  have HR := Aside0.mk hr
  have HG := Lib.hid (refGood_val b wd)
  have HE : Hid (needE b wd xs = if scE b wd = 0 then (if fitB b xs = true then 0 else 142) else 10) := Lib.hid rfl
  have HN : Hid (needN b wd xs = if needE b wd xs = 0 then (xs.length : Int) + 4 + total xs else 0) := Lib.hid rfl
  have HP : Hid (scE b wd = 0 → 64 ≤ b ∧ b ≤ 16384) := Lib.hid (scE_bd b wd)
  clear hr
  generalize scE b wd = se at *
  by_cases h0 : se = 0
  · obtain ⟨b1, b2⟩ := HP.out h0
    have HFI : Hid (∀ w : World, KP.C w A0 xs.length xs → Calls Try.prog 49 #[.agg #[.int .i64 b, .int .i64 wd], .slice A0 xs.length c0] w fun e w' => e = .returned (.bool (fitB b xs)) ∧ Below w.heap.size w w') := Lib.hid fun w h => fits_any b wd A0 c0 xs w h b1 b2 hl
    have T1 : (se != 0) = false := by simp [h0]
    have HFT : Hid (fitB b xs = true → xs.length ≤ 65536 ∧ xs.all (okP b) = true ∧ 0 ≤ total xs ∧ total xs ≤ 17179869184) := Lib.hid (by
      intro h
      unfold fitB at h
      simp only [Bool.and_eq_true, decide_eq_true_eq] at h
      have := total_bd ⟨b1, b2⟩ xs h.2
      exact ⟨h.1, h.2, this.1, by omega⟩)
    rw [if_pos h0] at HE
    clear h0 HP
    cases hf : fitB b xs with
    | false =>
      rw [hf] at HFI HE
      clear hf
      go_enter Try.func15, Try.ntmps15
      go_wp2_with fail
      go_at_call 48
      refine (torrentref1_Good.calls 10 b wd se _ HG.out).mono ?_
      rintro e w1 ⟨rfl, hb1⟩
      have HB := Aside0.mk (below_step (below_alloc (Below.refl _ _) _) hb1)
      have hbox : w1.cell? ⟨w.heap.size, 0, none⟩ = some (.int .i64 b) := cell_stay hb1 (by rw [World.cell?_alloc_mark]; rfl)
      have hbox1 : w1.cell? ⟨w.heap.size, 1, none⟩ = some (.int .i64 wd) := cell_stay hb1 (by rw [World.cell?_alloc_mark]; rfl)
      clear hb1
      go_wp2_with fail
      go_at_call 49
      refine (HFI.out _ (Kd.C_below HR.out HB.out)).mono ?_
      rintro e w2 ⟨rfl, hb2⟩
      go_wp2
      go_ret2
      exact ⟨by rw [HN.out, HE.out]; rfl, below_step HB.out hb2⟩
    | true =>
      obtain ⟨q1, q2, q3, q4⟩ := HFT.out hf
      have HAH : Hid (∀ w : World, KP.C w A0 xs.length xs → Calls Try.prog 50 #[.slice A0 xs.length c0, .int .i64 (xs.length : Nat)] w fun e w' => e = .returned (.int .i64 (total xs)) ∧ ∃ q, w' = w.drewN q) := Lib.hid fun w h => ahead_any b ⟨b1, b2⟩ A0 c0 xs w h q1 q2
      rw [hf] at HFI HE
      clear hf q2 HFT
      generalize total xs = t at *
      go_enter Try.func15, Try.ntmps15
      go_wp2_with fail
      go_at_call 48
      refine (torrentref1_Good.calls 10 b wd se _ HG.out).mono ?_
      rintro e w1 ⟨rfl, hb1⟩
      have HB := Aside0.mk (below_step (below_alloc (Below.refl _ _) _) hb1)
      have hbox : w1.cell? ⟨w.heap.size, 0, none⟩ = some (.int .i64 b) := cell_stay hb1 (by rw [World.cell?_alloc_mark]; rfl)
      have hbox1 : w1.cell? ⟨w.heap.size, 1, none⟩ = some (.int .i64 wd) := cell_stay hb1 (by rw [World.cell?_alloc_mark]; rfl)
      clear hb1
      go_wp2_with fail
      go_at_call 49
      refine (HFI.out _ (Kd.C_below HR.out HB.out)).mono ?_
      rintro e w2 ⟨rfl, hb2⟩
      have HB2 := Aside0.mk (below_step HB.out hb2)
      clear hbox hbox1 hb2
      go_wp2_with fail
      go_at_call 50
      refine (HAH.out _ (Kd.C_below HR.out HB2.out)).mono ?_
      rintro e w3 ⟨rfl, q, rfl⟩
      go_wp2
      go_ret2
      exact ⟨by rw [HN.out, HE.out]; rfl, below_drewN HB2.out _⟩
  · have T1 : (se != 0) = true := by simp [h0]
    rw [if_neg h0] at HE
    clear h0 HP
    go_enter Try.func15, Try.ntmps15
    go_wp2_with fail
    go_at_call 48
    refine (torrentref1_Good.calls 10 b wd se _ HG.out).mono ?_
    rintro e w1 ⟨rfl, hb1⟩
    go_wp2
    go_ret2
    exact ⟨by rw [HN.out, HE.out]; rfl, below_step (below_alloc (Below.refl _ _) _) hb1⟩
end Sn
end Go.Proofs.Ytjeeakhgjcbhaaa
