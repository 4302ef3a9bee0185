/- Layer 5, walks: the reference's Order. -/
import Derived.Test.YtpkeabggkeecaaaPk
import Derived.Test.YtpkeabggkeecaaaNl
set_option linter.unusedVariables false
set_option linter.unusedSimpArgs false
namespace Go.Proofs.Ytpkeabggkeecaaa
open Go.RowKit Go.Proofs.YtpkeabggkeecaaaW.PrintWords
namespace Nm
open Wd
set_option maxHeartbeats 2000000 in
set_option maxRecDepth 100000 in
theorem refOrder_any (A0 : Option Addr) (c0 : Nat) (P : List (List ByteArray)) (w : World) (hr : KL.C w A0 P.length P) (hl : P.length ≤ 5864062014804) (hs : Lens P) (hz : Shorts P) :
    Calls Try.prog 6 #[.slice A0 P.length c0] w (OrdR P w) := by
  have HR := Aside0.mk hr
  have HS := Lib.hid hs
  have HZ := Lib.hid hz
  have HCL : Hid (∀ w : World, KL.C w A0 P.length P → Calls Try.prog 16 #[.slice A0 P.length c0] w fun e w' => e = .returned (ClashV P) ∧ Below w.heap.size w w') := Lib.hid fun w h => refClash_any A0 c0 P w h hl hs
  by_cases hbig : 4096 < P.length
  · have HE : Hid (ordE P = 58) := Lib.hid (if_pos hbig)
    clear hr hs hz HCL
    go_enter Try.func6, Try.ntmps6
    go_wp2
    go_ret2
    exact ord_bad HE.out (by omega) (Below.refl _ _)
  have hbig2 : decide ((4096 : Int) < (P.length : Int)) = false := decide_eq_false (by omega)
  have HE : Hid (ordE P = if firstPath P = 0 then clashE P else firstPath P) := Lib.hid (if_neg hbig)
  clear hr hs hz
  go_enter Try.func6, Try.ntmps6
  go_wp2
  go_loopw [4] (fun i wr => ∃ k : Nat, k ≤ P.length ∧ i = .int .i64 k ∧ Hid (firstPath (P.drop k) = firstPath P) ∧ Aside0 (Below w.heap.size w wr)) (fun i _ => P.length - (intOf i).toNat)
  case atStart => exact ⟨0, by omega, rfl, Lib.hid rfl, ⟨Below.refl _ _⟩⟩
  case round =>
    obtain ⟨k, hk, rfl, HC, HB⟩ := hrel
    by_cases hlt : k < P.length
    · obtain ⟨ad, B, c, e1, hx, hc, hrx⟩ := at_list HR.out k hlt
      cases e1
      replace hx := cell_stay HB.out hx
      have HP : Hid (∀ w1 : World, Aside0 (Below w.heap.size w w1) → Calls Try.prog 15 #[.slice B (lx P k).length c] w1 fun e w' => e = .returned (.int .i64 (path (lx P k))) ∧ Below w1.heap.size w1 w') := Lib.hid fun w1 h => refPath_any B c _ w1 (Kd.C_below hrx h.out) (HZ.out _ (nth_mem [] P k hlt))
      have HU : Hid (firstPath (P.drop k) = if path (lx P k) = 0 then firstPath (P.drop (k + 1)) else path (lx P k)) := Lib.hid (by rw [nth_drop [] P k hlt]; rfl)
      clear hrx hc
      generalize path (lx P k) = n at *
      generalize lx P k = xs at *
      by_cases h0 : n = 0
      · have hn : (n != 0) = false := by simp [h0]
        rw [if_pos h0] at HU
        clear h0
        go_wp2_with (go_at_call 15; refine (HP.out _ HB).mono ?_; rintro e w2 ⟨rfl, hb2⟩)
        go_roundw
        case rel => exact ⟨k + 1, by omega, by go_num, Lib.hid (by rw [← HC.out, HU.out]), ⟨below_step HB.out hb2⟩⟩
        case measure => simp [intOf]; omega
      · have hn : (n != 0) = true := by simp [h0]
        rw [if_neg h0] at HU
        have HF : Hid (ordE P = n) := Lib.hid (by rw [HE.out, ← HC.out, HU.out, if_neg h0])
        have H0 := Lib.hid h0
        clear h0
        go_wp2_with (go_at_call 15; refine (HP.out _ HB).mono ?_; rintro e w2 ⟨rfl, hb2⟩)
        go_ret2
        exact ord_bad HF.out H0.out (below_step HB.out hb2)
    · have HF : Hid (ordE P = clashE P) := Lib.hid (by rw [HE.out, ← HC.out, List.drop_of_length_le (by omega)]; rfl)
      have HA := Lib.hid (apart_of (P := P))
      unfold ClashV at HCL
      have hce : clashE P = (clashFrom P P.length 0).2.2 := rfl
      rw [hce] at HF
      clear hce HC HE
      generalize (clashFrom P P.length 0).1 = a at *
      generalize (clashFrom P P.length 0).2.1 = b at *
      generalize (clashFrom P P.length 0).2.2 = n at *
      by_cases h0 : n = 0
      · have hap := Lib.hid (HA.out h0)
        have hn : (n != 0) = false := by simp [h0]
        have hle : P.length ≤ 4096 := by omega
        have hmk : ∀ W, (Instr.makeSlice 24 (.int .i64 (P.length : Int)) (.int .i64 (P.length : Int))).run Try.prog W = .ok (.slice (some ⟨W.heap.size, 0, none⟩) P.length P.length) (W.alloc (.cells (madeCells #[.int .i64 0] P.length) 3)) := fun W => made_ints W _ hle
        have HF2 : Hid (ordE P = 0) := Lib.hid (by rw [HF.out, h0])
        clear h0 HA HF
        go_wp2_with fail
        go_at_call 16
        refine (HCL.out _ (Kd.C_below HR.out HB.out)).mono ?_
        rintro e w2 ⟨rfl, hb2⟩
        have HB2 := Aside0.mk (below_step HB.out hb2)
        clear hb2 HB HCL
        go_wp2
        clear hmk
        have HW2 : Hid (w.heap.size ≤ w2.heap.size) := Lib.hid (HB2.out.size)
        go_loopw [10, 11, 12] (fun i _ _ wq => ∃ j : Nat, j ≤ P.length ∧ i = .int .i64 j ∧ Aside0 (∃ cs : Array Value, wq.heap[w2.heap.size]? = some (.cells cs 3 (0, 0)) ∧ cs.toList = fillP P j) ∧ Aside0 (Below w.heap.size w wq)) (fun i _ _ _ => P.length - (intOf i).toNat)
        case atStart => exact ⟨0, by omega, rfl, ⟨madeCells #[.int .i64 0] P.length, by show (w2.heap.push _)[w2.heap.size]? = _; simp, fillP_zero _⟩, ⟨below_alloc HB2.out _⟩⟩
        case round =>
          obtain ⟨j, hj, rfl, HK, HB3⟩ := hrel
          by_cases hjl : j < P.length
          · go_wp2
            obtain ⟨wo, rfl⟩ : ∃ wo : World, wo = wr := ⟨_, rfl⟩
            obtain ⟨ad, B, c, e1, hx, hc, hrx⟩ := at_list HR.out j hjl
            cases e1
            go_loopw [11, 12] (fun s i wq => ∃ q : Nat, q ≤ P.length ∧ i = .int .i64 q ∧ s = .int .i64 ((cnt P j q : Nat) : Int) ∧ Aside0 (Below wo.heap.size wo wq)) (fun _ i _ => P.length - (intOf i).toNat)
            case atStart => exact ⟨0, by omega, rfl, rfl, ⟨Below.refl _ _⟩⟩
            case round =>
              obtain ⟨q, hq, rfl, rfl, HD⟩ := hrel
              have hcq := cnt_le P j q
              by_cases hql : q < P.length
              · obtain ⟨ad2, D, d, e2, hy, hd, hry⟩ := at_list HR.out q hql
                cases e2
                have HX := Aside0.mk (below_step HB3.out HD.out)
                have hx2 := cell_stay HX.out hx
                have hy2 := cell_stay HX.out hy
                have LM := Lib.hid (HS.out _ (nth_mem [] P q hql))
                have LN := Lib.hid (HS.out _ (nth_mem [] P j hjl))
                have HQ : Hid (∀ w0 : World, Aside0 (Below w.heap.size w w0) → Calls Try.prog 17 #[.slice D (lx P q).length d, .slice B (lx P j).length c] w0 fun e w' => e = .returned (.bool (lessL (lx P q) (lx P j))) ∧ ∃ k, w' = w0.drewN k) := Lib.hid fun w0 h => refLess_q D d _ B c _ w0 (Kd.C_below hry h.out) (Kd.C_below hrx h.out) LM.out LN.out
                have HCS := Lib.hid (cnt_succ P j q)
                generalize lessL (lx P q) (lx P j) = bb at *
                generalize lx P q = xq at *
                generalize lx P j = xj at *
                generalize cnt P j q = cq at *
                cases bb with
                | true =>
                  go_wp2_with fail
                  go_quiet ((go_at_call 17; with_reducible exact Calls.quiet_of (HQ.out _ ⟨below_drewN HX.out _⟩)))
                  go_wp2
                  go_roundw
                  case rel => exact ⟨q + 1, by omega, by go_num, by rw [HCS.out]; go_num, ⟨below_drewN HD.out _⟩⟩
                  case measure => simp [intOf]; omega
                | false =>
                  go_wp2_with fail
                  go_quiet ((go_at_call 17; with_reducible exact Calls.quiet_of (HQ.out _ ⟨below_drewN HX.out _⟩)))
                  go_wp2
                  go_roundw
                  case rel => exact ⟨q + 1, by omega, by go_num, by rw [HCS.out]; rfl, ⟨below_drewN HD.out _⟩⟩
                  case measure => simp [intOf]; omega
              · obtain rfl : q = P.length := by omega
                have hrk : cnt P j P.length < P.length := rk_lt hap.out hjl
                obtain ⟨cs, hcs, hfl⟩ := HK.out
                have hsz : cs.size = P.length := by rw [← Array.length_toList, hfl]; simp [fillP]
                have hblk : w2.heap.size < wo.heap.size := Nat.lt_of_not_le fun h => by rw [Array.getElem?_eq_none h] at hcs; cases hcs
                replace hcs := (HD.out.block _ hblk).trans hcs
                obtain ⟨u, hxc⟩ : ∃ u, wr.cell? ⟨w2.heap.size, cnt P j P.length, none⟩ = some u := ⟨cs[cnt P j P.length]'(by omega), by rw [Go.Joins.cell_of_block hcs]; simp [hsz, hrk]⟩
                have hfz : wr.frozen? ⟨w2.heap.size, cnt P j P.length, none⟩ = false := Go.Joins.unfrozen_of_block hcs _
                have HK1 : Aside0 (∃ cs : Array Value, (wr.setCell ⟨w2.heap.size, cnt P j P.length, none⟩ (.int .i64 j)).heap[w2.heap.size]? = some (.cells cs 3 (0, 0)) ∧ cs.toList = fillP P (j + 1)) := ⟨_, Go.Joins.block_setCell hcs _, fillP_step hap.out _ _ hfl hjl⟩
                clear hsz hfl hcs HK hblk hcq
                generalize cnt P j P.length = rj at *
                go_wp2
                go_roundw
                case rel => exact ⟨j + 1, by omega, by go_num, HK1, ⟨(below_step HB3.out HD.out).setCell HW2.out _⟩⟩
                case measure => simp [intOf]; omega
          · obtain rfl : j = P.length := by omega
            obtain ⟨cs, hcs, hfl⟩ := HK.out
            have HL : Hid (ordL P = sortI P) := Lib.hid (if_pos HF2.out)
            have HLn := Lib.hid (sortI_length P)
            have HRd := Lib.hid (filled_reads hcs hfl hle)
            clear hcs hfl HK
            go_wp2
            go_ret2
            unfold OrdR
            rw [HL.out, HF2.out, HLn.out]
            refine ⟨_, _, rfl, Nat.le_refl _, ?_, HB3.out⟩
            have := HRd.out
            rwa [HLn.out] at this
      · have hn : (n != 0) = true := by simp [h0]
        have H0 := Lib.hid h0
        clear h0 HA
        go_wp2_with (go_at_call 16; refine (HCL.out _ (Kd.C_below HR.out HB.out)).mono ?_; rintro e w2 ⟨rfl, hb2⟩)
        go_ret2
        exact ord_bad HF.out H0.out (below_step HB.out hb2)
end Nm
end Go.Proofs.Ytpkeabggkeecaaa
