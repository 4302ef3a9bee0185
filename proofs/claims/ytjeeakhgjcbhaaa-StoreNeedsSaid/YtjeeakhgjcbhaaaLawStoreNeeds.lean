/- torrentlaw14.StoreNeeds: for every scale and every list of pieces the store's Need answers as the document does, and nothing that was handed in is changed or kept. No condition beyond the form's own. -/
import Derived.Test.YtjeeakhgjcbhaaaRs
import Derived.Test.YtjeeakhgjcbhaaaSl
set_option linter.unusedVariables false
set_option linter.unusedSimpArgs false
namespace Go.Proofs.Ytjeeakhgjcbhaaa.LawStoreNeeds
open Go.ChangeShapes Go.WideShapes Go.ChangeAt Go.RowKit Go.Proofs.YtjeeakhgjcbhaaaW.PrintWords
theorem own : ownKnob Try.prog.godebug = none := by kernel_rfl
theorem laidOut : laidOutB Try.prog = true := by kernel_rfl
open Go.Proofs.Ytjeeakhgjcbhaaa.Sn Go.Proofs.Ytjeeakhgjcbhaaa.Fl
theorem opens_scale : Rw.Opens Try.prog 34 (Kd.pair (Kd.int .i64) (Kd.int .i64)) (fun x => (Lit.int .i64 x.1).wf = true ∧ (Lit.int .i64 x.2).wf = true) :=
  Rw.opens_struct Try.underlying34 (by kernel_rfl) (Rw.opensF_cons rfl (by kernel_rfl) (Rw.opens_int Try.underlying3) (Rw.opensF_one rfl (by kernel_rfl) (Rw.opens_int Try.underlying3)))
theorem opens_hash : Rw.Opens Try.prog 23 (Kd.arr 32 (Kd.int .u8) (by decide)) (fun xs => ∀ x ∈ xs, (Lit.int .u8 x).wf = true) :=
  Rw.opens_arr Try.underlying23 (by kernel_rfl) (by kernel_rfl) _ (Rw.opens_int Try.underlying5)
theorem opens_pc : Rw.Opens Try.prog 38 KP (fun _ => True) :=
  Rw.opens_map (Rw.opens_struct Try.underlying38 (by kernel_rfl) (Rw.opensF_cons rfl (by kernel_rfl) (Rw.opens_int Try.underlying3) (Rw.opensF_cons rfl (by kernel_rfl) (Rw.opens_int Try.underlying3) (Rw.opensF_cons rfl (by kernel_rfl) (Rw.opens_bool Try.underlying4) (Rw.opensF_one rfl (by kernel_rfl) opens_hash)))))
    fun w x cs hK hG => by
      obtain ⟨ln, lv, kn, hs⟩ := x
      obtain ⟨c0, r0, rfl, h0, c1, r1, rfl, h1, c2, r2, rfl, h2, h3⟩ := hK
      obtain ⟨g0, g1, _, g3⟩ := hG
      obtain ⟨hl, hr⟩ := Kd.arr_cells h3
      have e0 : c0 = [Value.int .i64 ln] := h0
      have e1 : c1 = [Value.int .i64 lv] := h1
      have e2 : c2 = [Value.bool kn] := h2
      subst e0 e1 e2
      exact ⟨⟨ln, lv, kn, hs, hl, g0, g1, g3⟩, by rw [hr]; rfl, trivial⟩
set_option maxRecDepth 100000 in
theorem lifted (os : Os) (started : os.Started) (H : Type) (enc : TypeId × Value → H) :
    ReturnsInHanded {} Try.checked os 4 .any (Rows.storeNeedsSpec.pre6 enc Try.prog Try.f4 Rows.storeNeedsRow.domain false) (Rows.storeNeedsSpec.post enc Try.prog Try.f4 false true false false) := by
  refine Rw.lifted_law (tb := 4) own started (by kernel_rfl) Try.func4
    (ChangeSpec.witness6 (enc := enc) (C := Try.checked) false ⟨#[], #[.agg #[.int .i64 0, .int .i64 0], .slice none 0 0], []⟩ 8 (by kernel_rfl) (by kernel_rfl) (by kernel_rfl) (by kernel_rfl)) laidOut (by kernel_rfl) rfl Try.underlying4 rfl ?_ ?_
  · intro ds hds
    rw [Try.params4] at hds
    match ds, hds with
    | [d0, d1], _ => rfl
  · intro W args ds p base hval hA hz
    rw [Try.params4] at hA hz hval
    obtain ⟨v0, vs0, ds0, p0, s, hargs, hK0, hG0, hA1, hz1⟩ := Rw.open_arg opens_scale hA hz
    obtain ⟨v1, vs1, ds1, p1, ps, rfl, ⟨A1, c1, hK1, hc1, hr1⟩, ⟨hl1, hs1⟩, hA2, hz2⟩ := Rw.open_arg (Rw.opens_slice Try.underlying35 (by kernel_rfl) opens_pc) hA1 hz1
    obtain rfl := Rw.open_end (args := args) hA2
    obtain rfl : args = #[v0, v1] := by cases args; simp_all
    obtain ⟨cs0, rfl, _⟩ := okWide_struct Try.underlying34 (hval 0 34 _ rfl rfl)
    obtain ⟨q0, q1, hq, k0, k1⟩ := hK0
    have e0 : q0 = [Value.int .i64 s.1] := k0
    have e1 : q1 = [Value.int .i64 s.2] := k1
    subst e0 e1
    have hcs : cs0 = #[.int .i64 s.1, .int .i64 s.2] := by apply Array.toList_inj.1; exact hq
    subst hcs
    obtain ⟨a1, n1, d1, rfl⟩ := okWide_slice Try.underlying35 (hval 1 35 _ rfl rfl)
    have e1 : [Value.slice a1 n1 d1] = [Value.slice A1 ps.length c1] := hK1
    injection e1 with e1
    injection e1 with e1a e1b e1c
    subst e1a e1b e1c
    have hb1 : Try.prog.bytesOf 38 = 56 := by kernel_rfl
    have hq1 : ps.length * 56 ≤ 140737488351232 := by rw [hb1] at hl1; unfold reachBytes at hl1; exact hl1
    exact law_any _ _ _ _ _ W hr1 hq1
theorem over : Rows.storeNeedsRow.holds Try.pinned (OpenSpec.ofChange Rows.storeNeedsSpec) :=
  OpenClaim.holds_of_wide 4 Try.f4 rfl rfl rfl rfl rfl rfl rfl ⟨rfl, rfl, rfl, rfl, rfl⟩ rfl rfl rfl rfl rfl (by kernel_rfl) Try.func4 (by kernel_rfl)
    (of_decide_eq_true (by kernel_rfl)) (by unfold Func.isWrapper; first | (rw [if_pos (by decide +kernel)]; kernel_rfl) | (rw [if_neg (by decide +kernel)]; exact ⟨rfl, rfl⟩))
    (fun os started H enc _ => lifted os started H enc)
/-- The statement. -/
theorem proved : Rows.StoreNeedsSaid := over
#print axioms proved
end Go.Proofs.Ytjeeakhgjcbhaaa.LawStoreNeeds
