/- torrentlaw5.NamesComponents: for every string the call of package names answers as the document does. No condition beyond the form's own. -/
import Derived.Test.YtdnkbpfgbpnofaaRow
import Derived.Test.YtdnkbpfgbpnofaaNd
set_option linter.unusedVariables false
set_option linter.unusedSimpArgs false
namespace Go.Proofs.Ytdnkbpfgbpnofaa.LawNamesComponents
open Go.ChangeShapes Go.WideShapes Go.ChangeAt Go.RowKit Go.Proofs.YtdnkbpfgbpnofaaW.PrintWords
theorem own : ownKnob Try.prog.godebug = none := by kernel_rfl
theorem laidOut : laidOutB Try.prog = true := by kernel_rfl
theorem law_any (s : ByteArray) (w : World) (hs : s.size ≤ 140737488351232) : Calls Try.prog 10 #[.string s] w fun e w' => e = .returned (.bool true) ∧ Below w.heap.size w w' := by
  go_enter Try.func10, Try.ntmps10
  go_wp2_with (first | (go_at_call 62; refine (Nm.comp_any _ _).mono ?_; rintro e w1 ⟨rfl, hb1⟩) | (go_at_call 63; refine (Nm.refComp_any _ _ hs).mono ?_; rintro e w2 ⟨rfl, hb2⟩))
  go_ret
  exact ⟨by simp, below_step hb1 hb2⟩
set_option maxRecDepth 100000 in
theorem lifted (os : Os) (started : os.Started) (H : Type) (enc : TypeId × Value → H) :
    ReturnsInHanded {} Try.checked os 10 .any (Rows.namesComponentsSpec.pre6 enc Try.prog Try.f10 Rows.namesComponentsRow.domain false) (Rows.namesComponentsSpec.post enc Try.prog Try.f10 false true false false) := by
  refine Rw.lifted_law (tb := 4) own started (by kernel_rfl) Try.func10
    (ChangeSpec.witness6 (enc := enc) (C := Try.checked) false ⟨#[], #[.string ByteArray.empty], []⟩ 8 (by kernel_rfl) (by kernel_rfl) (by kernel_rfl) (by kernel_rfl)) laidOut (by kernel_rfl) rfl Try.underlying4 rfl ?_ ?_
  · intro ds hds
    rw [Try.params10] at hds
    match ds, hds with
    | [d0], _ => rfl
  · intro W args ds p base hval hA hz
    rw [Try.params10] at hA hz hval
    obtain ⟨v0, vs0, ds0, p0, s, hargs, hK0, hG0, hA1, hz1⟩ := Rw.open_arg (Rw.opens_string Try.underlying9) hA hz
    obtain rfl := Rw.open_end (args := args) hA1
    obtain ⟨s', rfl⟩ := okWide_string Try.underlying9 (hval 0 9 v0 rfl (by rw [hargs]; rfl))
    obtain rfl : args = #[.string s'] := by cases args; simp_all
    have e : s' = s := by have h : [Value.string s'] = [Value.string s] := hK0; injection h with h; injection h
    subst e
    exact law_any _ W hG0
theorem over : Rows.namesComponentsRow.holds Try.pinned (OpenSpec.ofChange Rows.namesComponentsSpec) :=
  OpenClaim.holds_of_wide 10 Try.f10 rfl rfl rfl rfl rfl rfl rfl ⟨rfl, rfl, rfl, rfl, rfl⟩ rfl rfl rfl rfl rfl (by kernel_rfl) Try.func10 (by kernel_rfl)
    (of_decide_eq_true (by kernel_rfl)) (by unfold Func.isWrapper; first | (rw [if_pos (by decide +kernel)]; kernel_rfl) | (rw [if_neg (by decide +kernel)]; exact ⟨rfl, rfl⟩))
    (fun os started H enc _ => lifted os started H enc)
/-- The statement. -/
theorem proved : Rows.NamesComponentsSaid := over
#print axioms proved
end Go.Proofs.Ytdnkbpfgbpnofaa.LawNamesComponents
