/- torrentlaw5.NamesOrders: for every list of lists of strings the call of package names answers as the document does, and what was handed in is as it was. No condition beyond the form's own. -/
import Derived.Test.YtpkeabggkeecaaaRow
import Derived.Test.YtpkeabggkeecaaaSi
set_option linter.unusedVariables false
set_option linter.unusedSimpArgs false
namespace Go.Proofs.Ytpkeabggkeecaaa.LawNamesOrders
open Go.ChangeShapes Go.WideShapes Go.ChangeAt Go.RowKit Go.Proofs.YtpkeabggkeecaaaW.PrintWords
theorem own : ownKnob Try.prog.godebug = none := by kernel_rfl
theorem laidOut : laidOutB Try.prog = true := by kernel_rfl
open Go.Proofs.Ytpkeabggkeecaaa.Wd Go.Proofs.Ytpkeabggkeecaaa.Nm
set_option maxRecDepth 100000 in
theorem law_any (A0 : Option Addr) (c0 : Nat) (xss : List (List ByteArray)) (w : World) (hr0 : KL.C w A0 xss.length xss) (hc0 : xss.length ≤ c0) (hl0 : xss.length ≤ 5864062014804) (hs0 : Lens xss) (hz0 : Shorts xss) :
    Calls Try.prog 3 #[.slice A0 xss.length c0] w fun e w' => e = .returned (.bool true) ∧ Below w.heap.size w w' := by
  have HR0 := Aside0.mk hr0
  have HS0 := Aside0.mk hs0
  have H1 : Hid (∀ w : World, KL.C w A0 xss.length xss → Calls Try.prog 5 #[.slice A0 xss.length c0] w (OrdR xss w)) := Lib.hid fun w h => order_any _ _ _ w h hl0 hs0 hz0
  have H2 : Hid (∀ B d (w : World), KL.C w B xss.length xss → Calls Try.prog 6 #[.slice B xss.length d] w (OrdR xss w)) := Lib.hid fun B d w h => refOrder_any _ _ _ w h hl0 hs0 hz0
  have HL : Hid ((ordL xss).length ≤ 8796093022207) := Lib.hid (by unfold ordL; split; rw [sortI_length]; omega; simp)
  clear hr0 hs0 hz0
  go_enter Try.func3, Try.ntmps3
  go_wp2_with fail
  go_at_call 4
  refine (twins_any _ _ _ _ HR0.out hl0 HS0.out).mono ?_
  rintro e w1 ⟨q, rfl, hq, hb1⟩
  obtain ⟨B, d, rfl, hd, hq2⟩ := Kd.R_reads hq
  have HQ := Aside0.mk hq2
  clear hq hq2
  go_wp2_with fail
  go_at_call 5
  refine (H1.out _ (Kd.C_below HR0.out hb1)).mono ?_
  rintro e w2 h2
  unfold OrdR at h2
  obtain ⟨C1, k1, rfl, hk1, hr1, hb2⟩ := h2
  go_wp2_with fail
  go_at_call 6
  refine (H2.out _ _ _ (Kd.C_below HQ.out hb2)).mono ?_
  rintro e w3 h3
  unfold OrdR at h3
  obtain ⟨C2, k2, rfl, hk2, hr2, hb3⟩ := h3
  have h1 : (ordE xss == ordE xss) = true := by simp
  have hb13 := below_step (below_step hb1 hb2) hb3
  have HR1 := Aside0.mk (Kd.C_below hr1 hb3)
  have HR2 := Aside0.mk hr2
  clear hr1 hr2 hk1 hk2
  generalize ordE xss = oe at *
  generalize ordL xss = ol at *
  go_wp2_with fail
  go_at_call 7
  refine (sameInts_any _ _ _ _ _ _ HR1.out HR2.out HL.out).mono ?_
  rintro e w4 ⟨rfl, m1, rfl⟩
  go_wp2_with fail
  go_at_call 8
  refine (sameAll_any _ _ _ _ _ _ _ (Kd.C_drewN (Kd.C_below HR0.out hb13) _) (Kd.C_drewN (Kd.C_below HQ.out (below_step hb2 hb3)) _) hl0 HS0.out rfl).mono ?_
  rintro e w4 ⟨rfl, m, rfl⟩
  have HX := Lib.hid (sameAllB_refl xss)
  rw [HX.out]
  go_wp2
  go_ret
  exact ⟨rfl, below_drewN hb13 _⟩
set_option maxRecDepth 100000 in
theorem lifted (os : Os) (started : os.Started) (H : Type) (enc : TypeId × Value → H) :
    ReturnsInHanded {} Try.checked os 3 .any (Rows.namesOrdersSpec.pre6 enc Try.prog Try.f3 Rows.namesOrdersRow.domain false) (Rows.namesOrdersSpec.post enc Try.prog Try.f3 false true false false) := by
  refine Rw.lifted_law (tb := 4) own started (by kernel_rfl) Try.func3
    (ChangeSpec.witness6 (enc := enc) (C := Try.checked) false ⟨#[], #[.slice none 0 0], []⟩ 8 (by kernel_rfl) (by kernel_rfl) (by kernel_rfl) (by kernel_rfl)) laidOut (by kernel_rfl) rfl Try.underlying4 rfl ?_ ?_
  · intro ds hds
    rw [Try.params3] at hds
    match ds, hds with
    | [d0], _ => rfl
  · intro W args ds p base hval hA hz
    rw [Try.params3] at hA hz hval
    obtain ⟨v0, vs0, ds0, p0, xss, hargs, ⟨A0, c0, hK0, hc0, hr0⟩, ⟨hl0, hs0⟩, hA1, hz1⟩ := Rw.open_arg (Rw.opens_slice Try.underlying22 (by kernel_rfl) (Rw.opens_slice Try.underlying31 (by kernel_rfl) (Rw.opens_string Try.underlying9))) hA hz
    obtain rfl := Rw.open_end (args := args) hA1
    obtain rfl : args = #[v0] := by cases args; simp_all
    obtain ⟨a0, n0, d0, rfl⟩ := okWide_slice Try.underlying22 (hval 0 22 _ rfl rfl)
    have e0 : [Value.slice a0 n0 d0] = [Value.slice A0 xss.length c0] := hK0
    injection e0 with e0
    injection e0 with e0a e0b e0c
    subst e0a e0b e0c
    have hb0 : Try.prog.bytesOf 31 = 24 := by kernel_rfl
    have hb1 : Try.prog.bytesOf 9 = 16 := by kernel_rfl
    have hq0 : xss.length ≤ 5864062014804 := by rw [hb0] at hl0; unfold reachBytes at hl0; omega
    have hq1 : Nm.Lens xss := fun x hx => by have := (hs0 x hx).1; rw [hb1] at this; unfold reachBytes at this; omega
    exact law_any _ _ _ W hr0 hc0 hq0 hq1 (fun x hx => (hs0 x hx).2)
theorem over : Rows.namesOrdersRow.holds Try.pinned (OpenSpec.ofChange Rows.namesOrdersSpec) :=
  OpenClaim.holds_of_wide 3 Try.f3 rfl rfl rfl rfl rfl rfl rfl ⟨rfl, rfl, rfl, rfl, rfl⟩ rfl rfl rfl rfl rfl (by kernel_rfl) Try.func3 (by kernel_rfl)
    (of_decide_eq_true (by kernel_rfl)) (by unfold Func.isWrapper; first | (rw [if_pos (by decide +kernel)]; kernel_rfl) | (rw [if_neg (by decide +kernel)]; exact ⟨rfl, rfl⟩))
    (fun os started H enc _ => lifted os started H enc)
/-- The statement. -/
theorem proved : Rows.NamesOrdersSaid := over
#print axioms proved
end Go.Proofs.Ytpkeabggkeecaaa.LawNamesOrders
