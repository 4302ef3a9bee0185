/- torrentlaw5.NamesClashes: for every list of lists of strings the call of package names answers as the document does, and what was handed in is as it was. No condition beyond the form's own. -/
import Derived.Test.YtdnkbpfgbpnofaaRow
import Derived.Test.YtdnkbpfgbpnofaaNk
set_option linter.unusedVariables false
set_option linter.unusedSimpArgs false
namespace Go.Proofs.Ytdnkbpfgbpnofaa.LawNamesClashes
open Go.ChangeShapes Go.WideShapes Go.ChangeAt Go.RowKit Go.Proofs.YtdnkbpfgbpnofaaW.PrintWords
theorem own : ownKnob Try.prog.godebug = none := by kernel_rfl
theorem laidOut : laidOutB Try.prog = true := by kernel_rfl
open Go.Proofs.Ytdnkbpfgbpnofaa.Wd Go.Proofs.Ytdnkbpfgbpnofaa.Nm
set_option maxRecDepth 100000 in
theorem law_any (A0 : Option Addr) (c0 : Nat) (xss : List (List ByteArray)) (w : World) (hr0 : KL.C w A0 xss.length xss) (hc0 : xss.length ≤ c0) (hl0 : xss.length ≤ 5864062014804) (hs0 : Lens xss) (hz0 : Shorts xss) :
    Calls Try.prog 12 #[.slice A0 xss.length c0] w fun e w' => e = .returned (.bool true) ∧ Below w.heap.size w w' := by
  have HR0 := Aside0.mk hr0
  have HS0 := Aside0.mk hs0
  have HZ0 := Aside0.mk hz0
  clear hr0 hs0 hz0
  go_enter Try.func12, Try.ntmps12
  go_wp2_with fail
  go_at_call 68
  refine (twins_any _ _ _ _ HR0.out hl0 HS0.out).mono ?_
  rintro e w1 ⟨q, rfl, hq, hb1⟩
  obtain ⟨B, d, rfl, hd, hq2⟩ := Kd.R_reads hq
  have HQ := Aside0.mk hq2
  clear hq hq2
  have hv : ∃ a b c, ClashV xss = .tuple #[.int .i64 a, .int .i64 b, .int .i64 c] := ⟨_, _, _, rfl⟩
  obtain ⟨a, b, c, hv⟩ := hv
  have H1 : Hid (∀ w : World, KL.C w A0 xss.length xss → Calls Try.prog 69 #[.slice A0 xss.length c0] w fun e w' => e = .returned (.tuple #[.int .i64 a, .int .i64 b, .int .i64 c]) ∧ Below w.heap.size w w') := Lib.hid fun w h => by rw [← hv]; exact clash_any _ _ _ w h hl0 HS0.out HZ0.out
  have H2 : Hid (∀ w : World, KL.C w B xss.length xss → Calls Try.prog 70 #[.slice B xss.length d] w fun e w' => e = .returned (.tuple #[.int .i64 a, .int .i64 b, .int .i64 c]) ∧ Below w.heap.size w w') := Lib.hid fun w h => by rw [← hv]; exact refClash_any _ _ _ w h hl0 HS0.out
  clear hv
  go_wp2_with fail
  go_at_call 69
  refine (H1.out _ (Kd.C_below HR0.out hb1)).mono ?_
  rintro e w2 ⟨rfl, hb2⟩
  go_wp2_with fail
  go_at_call 70
  refine (H2.out _ (Kd.C_below HQ.out hb2)).mono ?_
  rintro e w3 ⟨rfl, hb3⟩
  have h1 : (a == a) = true := by simp
  have h2 : (b == b) = true := by simp
  have h3 : (c == c) = true := by simp
  have hb13 := below_step (below_step hb1 hb2) hb3
  go_wp2_with fail
  go_at_call 71
  refine (sameAll_any _ _ _ _ _ _ _ (Kd.C_below HR0.out hb13) (Kd.C_below HQ.out (below_step hb2 hb3)) hl0 HS0.out rfl).mono ?_
  rintro e w4 ⟨rfl, m, rfl⟩
  have HX := Lib.hid (sameAllB_refl xss)
  rw [HX.out]
  go_wp2
  go_ret
  exact ⟨rfl, below_drewN hb13 _⟩
set_option maxRecDepth 100000 in
theorem lifted (os : Os) (started : os.Started) (H : Type) (enc : TypeId × Value → H) :
    ReturnsInHanded {} Try.checked os 12 .any (Rows.namesClashesSpec.pre6 enc Try.prog Try.f12 Rows.namesClashesRow.domain false) (Rows.namesClashesSpec.post enc Try.prog Try.f12 false true false false) := by
  refine Rw.lifted_law (tb := 4) own started (by kernel_rfl) Try.func12
    (ChangeSpec.witness6 (enc := enc) (C := Try.checked) false ⟨#[], #[.slice none 0 0], []⟩ 8 (by kernel_rfl) (by kernel_rfl) (by kernel_rfl) (by kernel_rfl)) laidOut (by kernel_rfl) rfl Try.underlying4 rfl ?_ ?_
  · intro ds hds
    rw [Try.params12] at hds
    match ds, hds with
    | [d0], _ => rfl
  · intro W args ds p base hval hA hz
    rw [Try.params12] at hA hz hval
    obtain ⟨v0, vs0, ds0, p0, xss, hargs, ⟨A0, c0, hK0, hc0, hr0⟩, ⟨hl0, hs0⟩, hA1, hz1⟩ := Rw.open_arg (Rw.opens_slice Try.underlying55 (by kernel_rfl) (Rw.opens_slice Try.underlying34 (by kernel_rfl) (Rw.opens_string Try.underlying9))) hA hz
    obtain rfl := Rw.open_end (args := args) hA1
    obtain rfl : args = #[v0] := by cases args; simp_all
    obtain ⟨a0, n0, d0, rfl⟩ := okWide_slice Try.underlying55 (hval 0 55 _ rfl rfl)
    have e0 : [Value.slice a0 n0 d0] = [Value.slice A0 xss.length c0] := hK0
    injection e0 with e0
    injection e0 with e0a e0b e0c
    subst e0a e0b e0c
    have hb0 : Try.prog.bytesOf 34 = 24 := by kernel_rfl
    have hb1 : Try.prog.bytesOf 9 = 16 := by kernel_rfl
    have hq0 : xss.length ≤ 5864062014804 := by rw [hb0] at hl0; unfold reachBytes at hl0; omega
    have hq1 : Nm.Lens xss := fun x hx => by have := (hs0 x hx).1; rw [hb1] at this; unfold reachBytes at this; omega
    exact law_any _ _ _ W hr0 hc0 hq0 hq1 (fun x hx => (hs0 x hx).2)
theorem over : Rows.namesClashesRow.holds Try.pinned (OpenSpec.ofChange Rows.namesClashesSpec) :=
  OpenClaim.holds_of_wide 12 Try.f12 rfl rfl rfl rfl rfl rfl rfl ⟨rfl, rfl, rfl, rfl, rfl⟩ rfl rfl rfl rfl rfl (by kernel_rfl) Try.func12 (by kernel_rfl)
    (of_decide_eq_true (by kernel_rfl)) (by unfold Func.isWrapper; first | (rw [if_pos (by decide +kernel)]; kernel_rfl) | (rw [if_neg (by decide +kernel)]; exact ⟨rfl, rfl⟩))
    (fun os started H enc _ => lifted os started H enc)
/-- The statement. -/
theorem proved : Rows.NamesClashesSaid := over
#print axioms proved
end Go.Proofs.Ytdnkbpfgbpnofaa.LawNamesClashes
