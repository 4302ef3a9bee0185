/- torrentlaw5.NamesJoins: for every lists of strings the call of package names answers as the document does, and what was handed in is as it was. No condition beyond the form's own. -/
import Derived.Test.YtdnkbpfgbpnofaaRow
import Derived.Test.YtdnkbpfgbpnofaaNg
set_option linter.unusedVariables false
set_option linter.unusedSimpArgs false
namespace Go.Proofs.Ytdnkbpfgbpnofaa.LawNamesJoins
open Go.ChangeShapes Go.WideShapes Go.ChangeAt Go.RowKit Go.Proofs.YtdnkbpfgbpnofaaW.PrintWords
theorem own : ownKnob Try.prog.godebug = none := by kernel_rfl
theorem laidOut : laidOutB Try.prog = true := by kernel_rfl
open Go.Proofs.Ytdnkbpfgbpnofaa.Wd Go.Proofs.Ytdnkbpfgbpnofaa.Nm
set_option maxRecDepth 100000 in
theorem law_any (A0 : Option Addr) (c0 : Nat) (xs : List ByteArray) (w : World) (hr0 : Kd.string.C w A0 xs.length xs) (hc0 : xs.length ≤ c0) (hl0 : xs.length ≤ 8796093022207) (hs0 : Nm.Short xs) :
    Calls Try.prog 18 #[.slice A0 xs.length c0] w fun e w' => e = .returned (.bool true) ∧ Below w.heap.size w w' := by
  have HR0 := Aside0.mk hr0
  have HS0 := Aside0.mk hs0
  have HC0 := Aside0.mk hc0
  clear hr0 hs0 hc0
  go_enter Try.func18, Try.ntmps18
  go_wp2_with fail
  go_at_call 64
  refine (twin_any _ _ _ _ HR0.out HC0.out hl0).mono ?_
  rintro e w1 ⟨q, rfl, hq, hb1⟩
  obtain ⟨B, d, rfl, hd, hq2⟩ := Kd.R_reads hq
  have HQ := Aside0.mk hq2
  clear hq hq2
  have hv : ∃ s n, JoinV xs = .tuple #[.string s, .int .i64 n] := by unfold JoinV; split; exact ⟨_, _, rfl⟩; exact ⟨_, _, rfl⟩
  obtain ⟨s, n, hv⟩ := hv
  have H1 : Hid (∀ w : World, Kd.string.C w A0 xs.length xs → Calls Try.prog 97 #[.slice A0 xs.length c0] w fun e w' => e = .returned (.tuple #[.string s, .int .i64 n]) ∧ Below w.heap.size w w') := Lib.hid fun w h => by rw [← hv]; exact join_any _ _ _ w h HC0.out
  have H2 : Hid (∀ w : World, Kd.string.C w B xs.length xs → Calls Try.prog 98 #[.slice B xs.length d] w fun e w' => e = .returned (.tuple #[.string s, .int .i64 n]) ∧ Below w.heap.size w w') := Lib.hid fun w h => by rw [← hv]; exact refJoin_any _ _ _ w h HS0.out
  clear hv
  go_wp2_with fail
  go_at_call 97
  refine (H1.out _ (Kd.C_below HR0.out hb1)).mono ?_
  rintro e w2 ⟨rfl, hb2⟩
  go_wp2_with fail
  go_at_call 98
  refine (H2.out _ (Kd.C_below HQ.out hb2)).mono ?_
  rintro e w3 ⟨rfl, hb3⟩
  have h1 : (n == n) = true := by simp
  have h2 : (s.toList == s.toList) = true := by simp
  have hb13 := below_step (below_step hb1 hb2) hb3
  go_wp2_with fail
  go_at_call 67
  refine (same_any _ _ _ _ _ _ _ (Kd.C_below HR0.out hb13) (Kd.C_below HQ.out (below_step hb2 hb3)) hl0).mono ?_
  rintro e w4 ⟨rfl, hb4⟩
  have HX := Lib.hid (sameB_refl xs)
  rw [HX.out]
  go_wp2
  go_ret
  exact ⟨rfl, below_step hb13 hb4⟩
set_option maxRecDepth 100000 in
theorem lifted (os : Os) (started : os.Started) (H : Type) (enc : TypeId × Value → H) :
    ReturnsInHanded {} Try.checked os 18 .any (Rows.namesJoinsSpec.pre6 enc Try.prog Try.f18 Rows.namesJoinsRow.domain false) (Rows.namesJoinsSpec.post enc Try.prog Try.f18 false true false false) := by
  refine Rw.lifted_law (tb := 4) own started (by kernel_rfl) Try.func18
    (ChangeSpec.witness6 (enc := enc) (C := Try.checked) false ⟨#[], #[.slice none 0 0], []⟩ 8 (by kernel_rfl) (by kernel_rfl) (by kernel_rfl) (by kernel_rfl)) laidOut (by kernel_rfl) rfl Try.underlying4 rfl ?_ ?_
  · intro ds hds
    rw [Try.params18] at hds
    match ds, hds with
    | [d0], _ => rfl
  · intro W args ds p base hval hA hz
    rw [Try.params18] at hA hz hval
    obtain ⟨v0, vs0, ds0, p0, xs, hargs, ⟨A0, c0, hK0, hc0, hr0⟩, ⟨hl0, hs0⟩, hA1, hz1⟩ := Rw.open_arg (Rw.opens_slice Try.underlying34 (by kernel_rfl) (Rw.opens_string Try.underlying9)) hA hz
    obtain rfl := Rw.open_end (args := args) hA1
    obtain rfl : args = #[v0] := by cases args; simp_all
    obtain ⟨a0, n0, d0, rfl⟩ := okWide_slice Try.underlying34 (hval 0 34 _ rfl rfl)
    have e0 : [Value.slice a0 n0 d0] = [Value.slice A0 xs.length c0] := hK0
    injection e0 with e0
    injection e0 with e0a e0b e0c
    subst e0a e0b e0c
    have hb0 : Try.prog.bytesOf 9 = 16 := by kernel_rfl
    have hq0 : xs.length ≤ 8796093022207 := by rw [hb0] at hl0; unfold reachBytes at hl0; omega
    exact law_any _ _ _ W hr0 hc0 hq0 hs0
theorem over : Rows.namesJoinsRow.holds Try.pinned (OpenSpec.ofChange Rows.namesJoinsSpec) :=
  OpenClaim.holds_of_wide 18 Try.f18 rfl rfl rfl rfl rfl rfl rfl ⟨rfl, rfl, rfl, rfl, rfl⟩ rfl rfl rfl rfl rfl (by kernel_rfl) Try.func18 (by kernel_rfl)
    (of_decide_eq_true (by kernel_rfl)) (by unfold Func.isWrapper; first | (rw [if_pos (by decide +kernel)]; kernel_rfl) | (rw [if_neg (by decide +kernel)]; exact ⟨rfl, rfl⟩))
    (fun os started H enc _ => lifted os started H enc)
/-- The statement. -/
theorem proved : Rows.NamesJoinsSaid := over
#print axioms proved
end Go.Proofs.Ytdnkbpfgbpnofaa.LawNamesJoins
