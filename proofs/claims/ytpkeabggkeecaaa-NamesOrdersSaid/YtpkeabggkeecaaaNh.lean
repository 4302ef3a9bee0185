/- Layer 5 (names), walks over lists of lists of strings: twins, sameAll. Conditions: the lists are read at their addresses, lengths within the form's reach. -/
import Derived.Test.YtpkeabggkeecaaaNf
import Derived.Test.YtpkeabggkeecaaaNtw
set_option linter.unusedVariables false
set_option linter.unusedSimpArgs false
namespace Go.Proofs.Ytpkeabggkeecaaa
open Go.RowKit Go.Proofs.YtpkeabggkeecaaaW.PrintWords
theorem infoStrs : (Try.prog.info? 31).map (fun i => (i.zero, i.size, i.bytes)) = some (some (.slice none 0 0), 1, 24) := by kernel_rfl
namespace Nm
open Wd
/-- The kind of a list of strings in a cell. -/
def KL : Kd (List ByteArray) := Kd.slice 9 Kd.string
def lx (xss : List (List ByteArray)) (k : Nat) : List ByteArray := nth [] xss k
theorem at_list {w : World} {A : Option Addr} {n : Nat} {xss : List (List ByteArray)} (h : KL.C w A n xss) (k : Nat) (hk : k < n) : ∃ ad B c, A = some ad ∧ w.cell? (ad.add k) = some (.slice B (lx xss k).length c) ∧ (lx xss k).length ≤ c ∧ Kd.string.C w B (lx xss k).length (lx xss k) := by
  obtain ⟨ad, c, e, _, hK, hc0⟩ := Kd.C_get h ([] : List ByteArray) k (by omega) (by omega)
  have hc : ∀ j u, c[j]? = some u → w.cell? (ad.add (k * 1 + j)) = some u := hc0
  obtain ⟨B, c0, rfl, l0, g0⟩ := hK
  exact ⟨ad, B, c0, e, by have hq := hc 0 _ rfl; rwa [Nat.mul_one, Nat.add_zero] at hq, l0, g0⟩
def MadeLists (w : World) (xss : List (List ByteArray)) (e : Ending) (w' : World) : Prop := ∃ v, e = .returned v ∧ KL.R 31 w' w.heap.size (fun _ => True) v xss ∧ Below w.heap.size w w'
/-- Each list within reach. -/
def Lens (xss : List (List ByteArray)) : Prop := ∀ x ∈ xss, x.length ≤ 8796093022207
set_option maxRecDepth 100000 in
theorem twins_any (A0 : Option Addr) (c0 : Nat) (xss : List (List ByteArray)) (w : World) (hr : KL.C w A0 xss.length xss) (hl : xss.length ≤ 5864062014804) (hs : Lens xss) :
    Calls Try.prog 4 #[.slice A0 xss.length c0] w (MadeLists w xss) := by
  have HR := Aside0.mk hr
  have HS := Aside0.mk hs
  clear hr hs
  go_enter Try.func4, Try.ntmps4
  go_wp2
  go_loopw [3, 4] (fun q i wr => ∃ k : Nat, k ≤ xss.length ∧ i = .int .i64 k ∧ Aside0 (KL.R 31 wr w.heap.size (fun _ => True) q (xss.take k)) ∧ Aside0 (Below w.heap.size w wr)) (fun _ i _ => xss.length - (intOf i).toNat)
  case atStart => exact ⟨0, by omega, rfl, ⟨Kd.R_nil _ _ _ _ _⟩, ⟨Below.refl _ _⟩⟩
  case round =>
    obtain ⟨k, hk, rfl, HO, HB⟩ := hrel
    by_cases hlt : k < xss.length
    · obtain ⟨ad, B, c, e0, hx, hlc, hrx⟩ := at_list HR.out k hlt
      have HX := Aside0.mk (Kd.C_below hrx HB.out)
      cases e0
      replace hx := cell_stay HB.out hx
      have hz : (xss.take k).length ≤ 5864062014803 := by rw [List.length_take]; omega
      have HT : Hid (xss.take (k + 1) = xss.take k ++ [lx xss k]) := Lib.hid (nth_take [] xss k hlt)
      have HM := Lib.hid (HS.out _ (nth_mem [] xss k hlt))
      clear hrx
      go_wp2_with fail
      go_at_call 9
      refine (twin_any _ _ _ _ HX.out hlc HM.out).mono ?_
      rintro e w6 ⟨q1, rfl, ho0, hb⟩
      obtain ⟨Ao, co, rfl⟩ := Kd.R_slice ho0
      have hnew := Kd.R_new' ho0 (Kd.R_lt HO.out)
      have HN := Aside0.mk (Kd.R_lower hnew HB.out.size)
      have HO6 := Aside0.mk (Kd.R_mono (Kd.R_elder' HO.out (Kd.R_base ho0) hb) (fun _ _ => trivial) : KL.R 31 w6 w.heap.size (fun _ => True) u3 (xss.take k))
      have HB6 := Aside0.mk (below_step HB.out hb)
      clear HO HB ho0 hb hnew HX
      go_wp2_with (at_builtin; refine Kd.R_append KL (w0 := w) w.heap.size rfl (.tmp 17) (.tmp 19) 22 31 (.slice none 0 0) 24 rfl Try.underlying22 infoStrs rfl (by decide) (by omega) u3 (xss.take k) (lx xss k) [.slice Ao (lx xss k).length co] (fun _ => True) (fun j => True ∧ some j ≠ u3.ownBlock) rfl rfl ?aP (fun _ h => h) ?aF ?aO ?aB ?aS ?aL ?_; (case aP => exact ⟨_, rfl, HN.out⟩); (case aB => exact HB6.out); (case aF => exact (fun _ _ => trivial)); (case aO => exact HO6.out); (case aS => exact below_size HB6.out); (case aL => omega); intro q2 wq ho hb hg hat; rw [← HT.out] at ho; have HO1 := Aside0.mk ho; have HB1 := Aside0.mk hb; clear ho hb hg hat HB6 HO6 HN)
      go_roundw
      case rel => exact ⟨k + 1, by omega, by go_num, HO1, HB1⟩
      case measure => simp [intOf]; omega
    · go_wp2
      go_ret
      obtain rfl : k = xss.length := by omega
      rw [List.take_length] at HO
      exact ⟨_, rfl, HO.out, HB.out⟩
/-- Are the lists the same? -/
def sameAllB : List (List ByteArray) → List (List ByteArray) → Bool
  | [], [] => true
  | x :: xs, y :: ys => if sameB x y = true then sameAllB xs ys else false
  | _, _ => false
theorem sameAllB_refl : ∀ xs, sameAllB xs xs = true
  | [] => rfl
  | x :: xs => by simp [sameAllB, sameB_refl, sameAllB_refl xs]
set_option maxRecDepth 100000 in
theorem sameAll_any (A0 : Option Addr) (c0 : Nat) (xss : List (List ByteArray)) (A1 : Option Addr) (c1 : Nat) (yss : List (List ByteArray)) (w : World) (hr0 : KL.C w A0 xss.length xss) (hr1 : KL.C w A1 yss.length yss) (hl : xss.length ≤ 5864062014804) (hs : Lens xss) (hne : xss.length = yss.length) :
    Calls Try.prog 8 #[.slice A0 xss.length c0, .slice A1 yss.length c1] w fun e w' => e = .returned (.bool (sameAllB xss yss)) ∧ ∃ m, w' = w.drewN m := by
  have HR0 := Aside0.mk hr0
  have HR1 := Aside0.mk hr1
  have HS := Aside0.mk hs
  clear hr0 hr1 hs
  obtain ⟨hn1, hn2, hn3, hn4⟩ := len_eq hne
  have hl0 : yss.length ≤ 5864062014804 := by omega
  have hlb : yss.length ≤ xss.length ∧ xss.length ≤ yss.length := by omega
  have hlb1 := hlb.1
  have hlb2 := hlb.2
  clear hne hlb
  go_enter Try.func8, Try.ntmps8
  go_wp2
  repeat (go_quiet (fail); try go_wp2)
  go_loopw [5] (fun i wr => ∃ k : Nat, k ≤ xss.length ∧ i = .int .i64 k ∧ Hid (sameAllB (xss.drop k) (yss.drop k) = sameAllB xss yss) ∧ Hid (∃ m, wr = w.drewN m)) (fun i _ => xss.length - (intOf i).toNat)
  case atStart => exact ⟨0, by omega, rfl, Lib.hid rfl, Lib.hid ⟨0, rfl⟩⟩
  case round =>
    obtain ⟨k, hk, rfl, HC, HD⟩ := hrel
    have HB : Aside0 (Below w.heap.size w wr) := ⟨by obtain ⟨m, hm⟩ := HD.out; rw [hm]; exact below_drewN (Below.refl _ _) m⟩
    by_cases hlt : k < xss.length
    · have hlt2 : k < yss.length := by omega
      obtain ⟨ad, B, c, e0, hx, hlc, hrx⟩ := at_list HR0.out k hlt
      obtain ⟨bd, D, d, e1, hy, hld, hry⟩ := at_list HR1.out k hlt2
      cases e0
      cases e1
      replace hx := cell_stay HB.out hx
      replace hy := cell_stay HB.out hy
      have HX := Aside0.mk (Kd.C_below hrx HB.out)
      have HY := Aside0.mk (Kd.C_below hry HB.out)
      clear hrx hry
      have HU : Hid (sameAllB (xss.drop k) (yss.drop k) = if sameB (lx xss k) (lx yss k) = true then sameAllB (xss.drop (k + 1)) (yss.drop (k + 1)) else false) :=
        Lib.hid (by rw [show xss.drop k = lx xss k :: xss.drop (k + 1) from nth_drop [] xss k hlt, show yss.drop k = lx yss k :: yss.drop (k + 1) from nth_drop [] yss k hlt2]; rfl)
      have HM := Lib.hid (HS.out _ (nth_mem [] xss k hlt))
      have HSA : Hid (∀ n : Nat, Calls Try.prog 18 #[.slice B (lx xss k).length c, .slice D (lx yss k).length d] (wr.drewN n) fun e w' => e = .returned (.bool (sameB (lx xss k) (lx yss k))) ∧ ∃ q, w' = (wr.drewN n).drewN q) :=
        Lib.hid fun n => same_q _ _ _ _ _ _ _ (Kd.C_drewN HX.out _) (Kd.C_drewN HY.out _) HM.out
      cases heq : sameB (lx xss k) (lx yss k) with
      | true =>
        rw [heq] at HU HSA
        go_wp2_with fail
        go_quiet ((go_at_call 18; exact Calls.quiet_of (HSA.out _)))
        go_wp2
        go_roundw
        case rel => exact ⟨k + 1, by omega, by go_num, Lib.hid (by rw [← HC.out, HU.out]; rfl), Lib.hid (by obtain ⟨m, hm⟩ := HD.out; exact ⟨m + nq, by rw [hm, World.drewN_drewN]⟩)⟩
        case measure => simp [intOf]; omega
      | false =>
        rw [heq] at HU HSA
        go_wp2_with fail
        go_quiet ((go_at_call 18; exact Calls.quiet_of (HSA.out _)))
        go_wp2
        go_ret
        obtain ⟨m, hm⟩ := HD.out
        exact ⟨ret_b (by rw [← HC.out, HU.out]; rfl), m + nq, by rw [hm, World.drewN_drewN]⟩
    · go_wp2
      go_ret
      exact ⟨ret_b (by rw [← HC.out, List.drop_of_length_le (by omega), List.drop_of_length_le (by omega)]; rfl), HD.out⟩
end Nm
end Go.Proofs.Ytpkeabggkeecaaa
