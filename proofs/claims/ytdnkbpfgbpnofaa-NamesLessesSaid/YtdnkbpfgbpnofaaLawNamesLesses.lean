/- torrentlaw5.NamesLesses: for every lists of strings the call of package names answers as the document does, and what was handed in is as it was. No condition beyond the form's own. -/
import Derived.Test.YtdnkbpfgbpnofaaRow
import Derived.Test.YtdnkbpfgbpnofaaNf
set_option linter.unusedVariables false
set_option linter.unusedSimpArgs false
namespace Go.Proofs.Ytdnkbpfgbpnofaa.LawNamesLesses
open Go.ChangeShapes Go.WideShapes Go.ChangeAt Go.RowKit Go.Proofs.YtdnkbpfgbpnofaaW.PrintWords
theorem own : ownKnob Try.prog.godebug = none := by kernel_rfl
theorem laidOut : laidOutB Try.prog = true := by kernel_rfl
open Wd Nm
set_option maxRecDepth 100000 in
theorem law_any (A0 : Option Addr) (c0 : Nat) (xs : List ByteArray) (A1 : Option Addr) (c1 : Nat) (ys : List ByteArray) (w : World) (hr0 : Kd.string.C w A0 xs.length xs) (hc0 : xs.length ≤ c0) (hl0 : xs.length ≤ 8796093022207) (hs0 : Nm.Short xs) (hr1 : Kd.string.C w A1 ys.length ys) (hc1 : ys.length ≤ c1) (hl1 : ys.length ≤ 8796093022207) (hs1 : Nm.Short ys) :
    Calls Try.prog 11 #[.slice A0 xs.length c0, .slice A1 ys.length c1] w fun e w' => e = .returned (.bool true) ∧ Below w.heap.size w w' := by
  have HR0 := Aside0.mk hr0
  have HS0 := Aside0.mk hs0
  have HC0 := Aside0.mk hc0
  clear hr0 hs0 hc0
  have HR1 := Aside0.mk hr1
  have HS1 := Aside0.mk hs1
  have HC1 := Aside0.mk hc1
  clear hr1 hs1 hc1
  go_enter Try.func11, Try.ntmps11
  go_wp2_with fail
  go_at_call 64
  refine (twin_any _ _ _ _ HR0.out HC0.out hl0).mono ?_
  rintro e w1 ⟨q, rfl, hq, hb1⟩
  obtain ⟨B, d, rfl, hd, hq2⟩ := Kd.R_reads hq
  have HQ := Aside0.mk hq2
  clear hq hq2
  go_wp2_with fail
  go_at_call 64
  refine (twin_any _ _ _ _ (Kd.C_below HR1.out hb1) HC1.out hl1).mono ?_
  rintro e w2 ⟨r, rfl, hr, hb2⟩
  obtain ⟨D, g, rfl, hg, hr2⟩ := Kd.R_reads hr
  have HT := Aside0.mk hr2
  clear hr hr2
  have hb12 := below_step hb1 hb2
  go_wp2_with fail
  go_at_call 65
  refine (less_any _ _ _ _ _ _ _ (Kd.C_below HR0.out hb12) (Kd.C_below HR1.out hb12) hl0 hl1).mono ?_
  rintro e w3 ⟨rfl, rfl⟩
  go_wp2_with fail
  go_at_call 66
  refine (refLess_any _ _ _ _ _ _ _ (Kd.C_below HQ.out hb2) HT.out hl0 hl1).mono ?_
  rintro e w3 ⟨rfl, hb3⟩
  have hb13 := below_step hb12 hb3
  generalize lessL xs ys = b
  have hbb : (b == b) = true := by simp
  go_wp2_with fail
  go_at_call 67
  refine (same_any _ _ _ _ _ _ _ (Kd.C_below HR0.out hb13) (Kd.C_below HQ.out (below_step hb2 hb3)) hl0).mono ?_
  rintro e w4 ⟨rfl, hb4⟩
  have hb14 := below_step hb13 hb4
  have HX := Lib.hid (sameB_refl xs)
  have HY := Lib.hid (sameB_refl ys)
  rw [HX.out]
  go_wp2_with fail
  go_at_call 67
  refine (same_any _ _ _ _ _ _ _ (Kd.C_below HR1.out hb14) (Kd.C_below HT.out (below_step hb3 hb4)) hl1).mono ?_
  rintro e w5 ⟨rfl, hb5⟩
  rw [HY.out]
  go_wp2
  go_ret
  exact ⟨rfl, below_step hb14 hb5⟩
set_option maxRecDepth 100000 in
theorem lifted (os : Os) (started : os.Started) (H : Type) (enc : TypeId × Value → H) :
    ReturnsInHanded {} Try.checked os 11 .any (Rows.namesLessesSpec.pre6 enc Try.prog Try.f11 Rows.namesLessesRow.domain false) (Rows.namesLessesSpec.post enc Try.prog Try.f11 false true false false) := by
  refine Rw.lifted_law (tb := 4) own started (by kernel_rfl) Try.func11
    (ChangeSpec.witness6 (enc := enc) (C := Try.checked) false ⟨#[], #[.slice none 0 0, .slice none 0 0], []⟩ 8 (by kernel_rfl) (by kernel_rfl) (by kernel_rfl) (by kernel_rfl)) laidOut (by kernel_rfl) rfl Try.underlying4 rfl ?_ ?_
  · intro ds hds
    rw [Try.params11] at hds
    match ds, hds with
    | [d0, d1], _ => rfl
  · intro W args ds p base hval hA hz
    rw [Try.params11] at hA hz hval
    obtain ⟨v0, vs0, ds0, p0, xs, hargs, ⟨A0, c0, hK0, hc0, hr0⟩, ⟨hl0, hs0⟩, hA1, hz1⟩ := Rw.open_arg (Rw.opens_slice Try.underlying34 (by kernel_rfl) (Rw.opens_string Try.underlying9)) hA hz
    obtain ⟨v1, vs1, ds1, p1, ys, rfl, ⟨A1, c1, hK1, hc1, hr1⟩, ⟨hl1, hs1⟩, hA2, hz2⟩ := Rw.open_arg (Rw.opens_slice Try.underlying34 (by kernel_rfl) (Rw.opens_string Try.underlying9)) hA1 hz1
    obtain rfl := Rw.open_end (args := args) hA2
    obtain rfl : args = #[v0, v1] := by cases args; simp_all
    obtain ⟨a0, n0, d0, rfl⟩ := okWide_slice Try.underlying34 (hval 0 34 _ rfl rfl)
    have e0 : [Value.slice a0 n0 d0] = [Value.slice A0 xs.length c0] := hK0
    injection e0 with e0
    injection e0 with e0a e0b e0c
    subst e0a e0b e0c
    have hb0 : Try.prog.bytesOf 9 = 16 := by kernel_rfl
    have hq0 : xs.length ≤ 8796093022207 := by rw [hb0] at hl0; unfold reachBytes at hl0; omega
    obtain ⟨a1, n1, d1, rfl⟩ := okWide_slice Try.underlying34 (hval 1 34 _ rfl rfl)
    have e1 : [Value.slice a1 n1 d1] = [Value.slice A1 ys.length c1] := hK1
    injection e1 with e1
    injection e1 with e1a e1b e1c
    subst e1a e1b e1c
    have hb1 : Try.prog.bytesOf 9 = 16 := by kernel_rfl
    have hq1 : ys.length ≤ 8796093022207 := by rw [hb1] at hl1; unfold reachBytes at hl1; omega
    exact law_any _ _ _ _ _ _ W hr0 hc0 hq0 hs0 hr1 hc1 hq1 hs1
theorem over : Rows.namesLessesRow.holds Try.pinned (OpenSpec.ofChange Rows.namesLessesSpec) :=
  OpenClaim.holds_of_wide 11 Try.f11 rfl rfl rfl rfl rfl rfl rfl ⟨rfl, rfl, rfl, rfl, rfl⟩ rfl rfl rfl rfl rfl (by kernel_rfl) Try.func11 (by kernel_rfl)
    (of_decide_eq_true (by kernel_rfl)) (by unfold Func.isWrapper; first | (rw [if_pos (by decide +kernel)]; kernel_rfl) | (rw [if_neg (by decide +kernel)]; exact ⟨rfl, rfl⟩))
    (fun os started H enc _ => lifted os started H enc)
/-- The statement. -/
theorem proved : Rows.NamesLessesSaid := over
#print axioms proved
end Go.Proofs.Ytdnkbpfgbpnofaa.LawNamesLesses
