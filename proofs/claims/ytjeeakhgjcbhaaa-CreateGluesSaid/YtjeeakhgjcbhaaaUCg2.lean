/- torrentlaw9.CreateGlues: for every metainfo and pieces create's Glue answers as the document does, and nothing that was handed in is changed or kept. No condition beyond the form's own. -/
import Derived.Test.YtjeeakhgjcbhaaaUCg1
import Derived.Test.YtjeeakhgjcbhaaaPCreateGluesx
set_option linter.unusedVariables false
set_option linter.unusedSimpArgs false
namespace Go.Proofs.Ytjeeakhgjcbhaaa
open Go.RowKit Go.Proofs.YtjeeakhgjcbhaaaW.PrintWords Go.Proofs.YtjeeakhgjcbhaaaW Go.Proofs.YtjeeakhgjcbhaaaW.PrintMore
namespace Cr
open Wd Vl Mt Sa PCreateGlues
abbrev GS := S106
abbrev KGS : Kd GS := k106
def g0 : GS := z106
def KBt : Kd (List Int) := Kd.slice 5 (Kd.int .u8)
/-- The files, their data not yet there. -/
def gl0 (m : MetaD) : List GS := m.2.2.1.map fun f => ⟨f.1, []⟩
/-- One piece laid behind its file's. -/
def glStep (out : List GS) (p : PlD) (d : List Int) : List GS := out.set p.1.toNat ⟨(out.getD p.1.toNat g0).f0, (out.getD p.1.toNat g0).f1 ++ d⟩
def pAt (L : List PlD) (k : Nat) : PlD := L.getD k (0, 0, 0, 0)
def dAt (ds : List (List Int)) (k : Nat) : List Int := ds.getD k []
def glN (out : List GS) (L : List PlD) (ds : List (List Int)) : Nat → Option (List GS)
  | 0 => some out
  | k + 1 => match glN out L ds k with
    | none => none
    | some o => if ((dAt ds k).length : Int) = (pAt L k).2.2.2 then some (glStep o (pAt L k) (dAt ds k)) else none
theorem glN_succ (out : List GS) (L : List PlD) (ds : List (List Int)) (k : Nat) (o : List GS) (h : glN out L ds k = some o) : glN out L ds (k + 1) = if ((dAt ds k).length : Int) = (pAt L k).2.2.2 then some (glStep o (pAt L k) (dAt ds k)) else none := by
  simp only [glN, h]
theorem glN_fail (out : List GS) (L : List PlD) (ds : List (List Int)) (k : Nat) (h : glN out L ds (k + 1) = none) : ∀ n, k < n → glN out L ds n = none
  | 0, hn => by omega
  | n + 1, hn => by
    rcases Nat.eq_or_lt_of_le (Nat.le_of_lt_succ hn) with e | hlt
    · rw [← e]; exact h
    · simp only [glN, glN_fail out L ds k h n hlt]
theorem glStep_len (o : List GS) (p : PlD) (d : List Int) : (glStep o p d).length = o.length := by unfold glStep; rw [List.length_set]
theorem glN_len (out : List GS) (L : List PlD) (ds : List (List Int)) : ∀ (k : Nat) (o : List GS), glN out L ds k = some o → o.length = out.length
  | 0, o, h => by cases h; rfl
  | k + 1, o, h => by
    cases hk : glN out L ds k with
    | none => simp only [glN, hk] at h; cases h
    | some o' =>
      rw [glN_succ out L ds k o' hk] at h
      split at h
      · cases h; rw [glStep_len, glN_len out L ds k o' hk]
      · cases h
/-- How much there is behind k pieces. -/
theorem glN_small (m : MetaD) (L : List PlD) (ds : List (List Int)) (hL : ∀ p ∈ L, p.2.2.2 ≤ 16777216) : ∀ (k : Nat) (o : List GS), k ≤ L.length → glN (gl0 m) L ds k = some o → ∀ s ∈ o, s.f1.length ≤ k * 16777216
  | 0, o, _, h => by
    cases h
    intro s hs
    obtain ⟨f, _, rfl⟩ := List.mem_map.1 hs
    exact Nat.zero_le _
  | k + 1, o, hk, h => by
    cases hp : glN (gl0 m) L ds k with
    | none => simp only [glN, hp] at h; cases h
    | some o' =>
      have ih := glN_small m L ds hL k o' (by omega) hp
      rw [glN_succ _ L ds k o' hp] at h
      split at h
      · rename_i hd
        cases h
        have hpl := hL (pAt L k) (nth_mem (0, 0, 0, 0) L k (by omega))
        intro s hs
        unfold glStep at hs
        rcases List.mem_or_eq_of_mem_set hs with hs | rfl
        · rw [Nat.succ_mul]
          exact Nat.le_trans (ih s hs) (Nat.le_add_right _ _)
        · have : (o'.getD (pAt L k).1.toNat g0).f1.length ≤ k * 16777216 := by
            rw [List.getD_eq_getElem?_getD]
            cases hq : o'[(pAt L k).1.toNat]? with
            | none => exact Nat.zero_le _
            | some s' => exact ih s' (List.mem_of_getElem? hq)
          rw [Nat.succ_mul]
          simp only [List.length_append]
          have h9 : (dAt ds k).length ≤ 16777216 := by clear this ih; omega
          exact Nat.add_le_add this h9
      · cases h
/-- Glue. -/
def glueR (m : MetaD) (ds : List (List Int)) : List GS × Int :=
  if cfault m = 0 then (if ds.length = (pls m.2.1 m.2.2.1 0).length then (match glN (gl0 m) (pls m.2.1 m.2.2.1 0) ds (pls m.2.1 m.2.2.1 0).length with | some o => (o, 0) | none => ([], 94)) else ([], 94)) else ([], cfault m)
theorem pls_small {m : MetaD} (hf : cfault m = 0) : ∀ p ∈ pls m.2.1 m.2.2.1 0, p.2.2.2 ≤ 16777216 := by
  obtain ⟨hpl, _, _, hL, _, _⟩ := cfault_ok hf
  have key : ∀ (l : List FileD) (i : Int), LensOk l → ∀ p ∈ pls m.2.1 l i, p.2.2.2 ≤ m.2.1 := by
    intro l
    induction l with
    | nil => intro i _ p hp; cases hp
    | cons f l ih =>
      intro i hl p hp
      rcases List.mem_append.1 hp with hp | hp
      · obtain ⟨n, hn, rfl⟩ := List.mem_map.1 hp
        unfold mkP
        simp only
        split <;> omega
      · exact ih (i + 1) (fun g hg => hl g (List.mem_cons_of_mem _ hg)) p hp
  intro p hp
  have := key _ 0 hL p hp
  omega
theorem infoSrc : (Try.prog.info? 106).map (fun i => (i.zero, i.size, i.bytes)) = some (some (.agg #[.slice none 0 0, .slice none 0 0]), 2, 48) := by kernel_rfl
theorem f0_of {w : World} {f : FileD} {cs : List Value} (h : KFile.K w f cs) : ∃ P p, cs[0]? = some (.slice P f.1.length p) ∧ f.1.length ≤ p ∧ Kd.string.C w P f.1.length f.1 := by
  obtain ⟨P, p, MM, q, rfl, h1, _, h2, _⟩ := file_open h
  exact ⟨P, p, rfl, h1, h2⟩
theorem two_sl (A B : Option Addr) (a b c d : Nat) : (#[.slice A a b, .slice B c d] : Array Value).all (·.oneCell') = true :=
  Fl.all_one (cs := [.slice A a b, .slice B c d]) (by intro u hu; simp at hu; rcases hu with rfl | rfl <;> rfl)
set_option maxHeartbeats 4000000 in
set_option maxRecDepth 100000 in
theorem glue1_any (f : FileD) (fcs : List Value) (w : World) (hF : KFile.K w f fcs) (hl : f.1.length * 16 ≤ 140737488351232) :
    Calls Try.prog 61 #[.agg fcs.toArray] w fun e w' => ∃ A c, e = .returned (.agg #[.slice A f.1.length c, .slice none 0 0]) ∧ Kd.string.R 9 w' w.heap.size (fun _ => True) (.slice A f.1.length c) f.1 ∧ Below w.heap.size w w' := by
  obtain ⟨P, p, hc0, _, hP⟩ := f0_of hF
  have hB := below_alloc (below_alloc (Below.refl w.heap.size w) (.cells fcs.toArray 93)) (.cells #[.slice none 0 0, .slice none 0 0] 106)
  have hf0 : ((w.alloc (.cells fcs.toArray 93)).alloc (.cells #[.slice none 0 0, .slice none 0 0] 106)).cell? ⟨w.heap.size, 0, none⟩ = some (.slice P f.1.length p) := (Go.Joins.cell_of_block (blk_alloc (heap_alloc_new w _) _) 0).trans (by rw [List.getElem?_toArray]; exact hc0)
  have HR0 : Hid (((w.alloc (.cells fcs.toArray 93)).alloc (.cells #[.slice none 0 0, .slice none 0 0] 106)).heap[w.heap.size + 1]? = some (.cells #[.slice none 0 0, .slice none 0 0] 106 (0, 0))) := Lib.hid (by
    have h := heap_alloc_new (w.alloc (.cells fcs.toArray 93)) (.cells #[.slice none 0 0, .slice none 0 0] 106)
    rwa [World.size_alloc] at h)
  have HP := Lib.hid (Kd.C_below hP hB)
  have HB := Lib.hid hB
  clear hc0 hP hB hF
  go_enter Try.func61, Try.ntmps61
  go_upto_region 1 with fail
  generalize (w.alloc (.cells fcs.toArray 93)).alloc (.cells #[.slice none 0 0, .slice none 0 0] 106) = V at *
  go_wp2_with fail
  go_at_call 62
  refine (cloneS_any P p f.1 V HP.out hl).mono ?_
  rintro e w1 ⟨v, rfl, hv, hb1⟩
  obtain ⟨A, c, rfl⟩ := Kd.R_slice hv
  have HR1 := Lib.hid (blk_below HR0.out hb1)
  have HB1 := Lib.hid (below_step HB.out hb1)
  have HV := Lib.hid (Kd.R_lower hv HB.out.size)
  clear hv hb1 HR0 HP hf0
  have hr6 := setRow_heap w1 (w.heap.size + 1) _ (#[.slice A f.1.length c, .slice none 0 0]) 106 (0, 0) HR1.out
  have hb6 := below_setRowL HB1.out (show w.heap.size ≤ w.heap.size + 1 by omega) (#[.slice A f.1.length c, .slice none 0 0])
  have hv6 : Kd.string.R 9 (w1.setRow (w.heap.size + 1) (#[.slice A f.1.length c, .slice none 0 0])) w.heap.size (fun _ => True) (.slice A f.1.length c) f.1 := R_setRow HV.out HR1.out (by decide) _
  go_wp2_with (first | ((with_reducible refine Fl.wpList_build_to rfl 106 _ rfl (#[.slice A f.1.length c, .slice none 0 0]) ?bf ?_); (case bf => kernel_rfl)) | ((with_reducible refine wpList_store_row rfl 106 (.tmp 2) (.tmp 6) rfl (w.heap.size + 1) (#[.slice A f.1.length c, .slice none 0 0]) ?sx ?sy 106 _ HR1.out ?si rfl ?s1 ?_); (case sx => rfl); (case sy => rfl); (case si => kernel_rfl); (case s1 => exact two_sl _ _ _ _ _ _)))
  refine bodyPost_ret (v := .agg #[.slice A f.1.length c, .slice none 0 0]) (results_cell_row rfl _ _ (w.heap.size + 1) 106 _ (0, 0) _ rfl hr6 Try.underlying106 rfl (by kernel_rfl)) rfl ?_
  exact ⟨A, c, rfl, hv6, hb6⟩
end Cr
end Go.Proofs.Ytjeeakhgjcbhaaa
set_option linter.unusedVariables false
set_option linter.unusedSimpArgs false
namespace Go.Proofs.Ytjeeakhgjcbhaaa
open Go.RowKit Go.Proofs.YtjeeakhgjcbhaaaW.PrintWords Go.Proofs.YtjeeakhgjcbhaaaW Go.Proofs.YtjeeakhgjcbhaaaW.PrintMore
namespace Cr
open Wd Vl Mt Sa PCreateGlues
theorem R_okq {α : Type} {d : Kd α} {e base : Nat} {ok : Nat → Prop} {w : World} {v : Value} {xs : List α} (h : d.R e w base ok v xs) : d.R e w base (fun k => base ≤ k) v xs := Kd.R_mono (Kd.R_bound h) fun k hk => hk.2.1
def mkG (f : FileD) : GS := ⟨f.1, []⟩
set_option maxHeartbeats 4000000 in
set_option maxRecDepth 100000 in
theorem turnF_any (A : Option Addr) (c : Nat) (fs : List FileD) (w : World) (hr : KFile.C w A fs.length fs) (hlen : fs.length * 88 ≤ 140737488351232) (hpl : ∀ f ∈ fs, f.1.length * 16 ≤ 140737488351232) :
    Calls Try.prog 60 #[.slice A fs.length c, .func (.func 61) #[] #[]] w fun e w' => ∃ v, e = .returned v ∧ Kd.S KGS 106 w' w.heap.size (fun _ => True) v (fs.map mkG) ∧ Below w.heap.size w w' := by
  obtain ⟨i0, hi0, hzz⟩ := Option.map_eq_some_iff.1 infoSrc
  simp only [Prod.mk.injEq] at hzz
  obtain ⟨hz0, hz1, hz2⟩ := hzz
  have hmk0 : ∀ W : World, (Instr.makeSlice 61 (.int .i64 0) (.int .i64 (fs.length : Int))).run Try.prog W = .ok (.slice (some ⟨W.heap.size, 0, none⟩) 0 fs.length) (W.alloc (.cells (madeCells (Value.agg #[.slice none 0 0, .slice none 0 0]).cells (fs.length * 2)) 106)) := fun W => by
    have hr := run_make (P := Try.prog) (w := W) 61 106 i0 (.agg #[.slice none 0 0, .slice none 0 0]) Try.underlying61 hi0 hz0 .i64 .i64 0 (fs.length : Int) (by omega) (by omega) (by rw [hz2]; omega) (by omega)
    rw [hz1] at hr
    exact hr
  have hcz : (madeCells (Value.agg #[.slice none 0 0, .slice none 0 0]).cells (fs.length * 2)).size = fs.length * 2 := size_madeCells _ _
  generalize madeCells (Value.agg #[.slice none 0 0, .slice none 0 0]).cells (fs.length * 2) = cur at *
  have HO0 : Aside0 (Kd.S KGS 106 (w.alloc (.cells cur 106)) w.heap.size (fun _ => True) (.slice (some ⟨w.heap.size, 0, none⟩) 0 fs.length) ((fs.take 0).map mkG)) := ⟨⟨fun _ => 0, fun _ _ => trivial, [], World.ownsRow_made w cur fs.length (Nat.le_refl _) (by unfold maxLen; omega) hcz, Reps.none _ _⟩⟩
  have HB0 := Aside0.mk (below_alloc (Below.refl w.heap.size w) (.cells cur 106))
  have HF := Aside0.mk hr
  have HPL := Lib.hid hpl
  clear hr hpl hz0 hz1 hz2 hi0 hcz
  go_enter Try.func60, Try.ntmps60
  go_wp2
  go_loopw [5, 13] (fun v i wz => ∃ k : Nat, k ≤ fs.length ∧ i = .int .i64 k ∧ Aside0 (Kd.S KGS 106 wz w.heap.size (fun _ => True) v ((fs.take k).map mkG)) ∧ Aside0 (Below w.heap.size w wz)) (fun v i _ => fs.length - (intOf i).toNat)
  case atStart => exact ⟨0, by omega, rfl, HO0, HB0⟩
  case round =>
    clear HO0 HB0 hmk0
    obtain ⟨k, hk, rfl, HO, HB⟩ := hrel
    by_cases hlt : k < fs.length
    · obtain ⟨ad, fcs, e0, hl35, hfk, hcs⟩ := at_file HF.out k hlt
      subst e0
      change KFile.K w (fs.getD k f0) fcs at hfk
      have hfl := HPL.out (fs.getD k f0) (nth_mem f0 fs k hlt)
      have HT : Hid ((fs.take (k + 1)).map mkG = (fs.take k).map mkG ++ [mkG (fs.getD k f0)]) := Lib.hid (by rw [List.take_succ_eq_append_getElem hlt, List.map_append, List.getD_eq_getElem?_getD, List.getElem?_eq_getElem hlt]; rfl)
      generalize fs.getD k f0 = f at *
      have HY : Hid (∀ j u, fcs[j]? = some u → wr.cell? ((ad.add (k * 35)).add j) = some u) := Lib.hid fun j u hj => by
        rw [Go.Deep.add_add]
        exact cell_stay HB.out (hcs j u hj)
      have HKF := Aside0.mk hfk
      have HL35 := Lib.hid hl35
      have HSF := Lib.hid ((show zF.size = 35 from by kernel_rfl).trans (show 35 = fcs.toArray.size by rw [List.size_toArray]; exact hl35.symm))
      have HS1 := Lib.hid (show (Try.prog.info? 93).map (·.size) = some fcs.toArray.size by rw [List.size_toArray]; exact sizeF hl35)
      have HON := Lib.hid (KFile.K_one hfk)
      clear hfk hcs hl35
      go_upto_region 5 with (first | ((with_reducible refine Fl.wpList_load rfl 93 (.tmp 15) rfl (ad.add (k * 35)) ?lx (fcs) _ ?lc Try.underlying93 rfl ?li ?_); (case lx => rfl); (case lc => exact HY.out); (case li => exact (sizeF HL35.out))) | ((with_reducible refine Fl.wpList_store_fresh rfl 93 (.tmp 7) (.tmp 16) rfl 93 _ (fcs).toArray ?sx ?sy ?si ?so ?s1 ?_); (case sx => rfl); (case sy => rfl); (case si => exact HS1.out); (case so => exact HSF.out); (case s1 => exact Fl.all_one HON.out)))
      replace HB := Aside0.mk (below_step HB.out (below_alloc (Below.refl _ _) (.cells fcs.toArray 93)))
      replace HO := Aside0.mk (Kd.S_alloc HO.out (.cells fcs.toArray 93))
      go_wp2_with ((with_reducible refine Fl.wpList_load_fresh rfl 93 (.tmp 7) rfl 93 (fcs).toArray ?fx _ Try.underlying93 rfl ?fi ?_); (case fx => rfl); (case fi => exact HS1.out))
      go_at_call 61
      refine (glue1_any f fcs _ (KFile.K_below HB.out HKF.out) hfl).mono ?_
      rintro e w2 ⟨Av, cv, rfl, hv, hb2⟩
      have HOK : Hid (∀ k, (wr.alloc (.cells fcs.toArray 93)).heap.size ≤ k → True ∧ some k ≠ u5.ownBlock) := Lib.hid fun k hk => ⟨trivial, fun e => by have := Kd.S_lt HO.out k e.symm; omega⟩
      have HMP : Hid (KGS.M w2 w.heap.size (fun k => (wr.alloc (.cells fcs.toArray 93)).heap.size ≤ k) (⟨f.1, []⟩ : GS) [.slice Av f.1.length cv, .slice none 0 0]) := Lib.hid (k106_mkM w2 w.heap.size _ (⟨f.1, []⟩ : GS) (Kd.R_lower (R_okq hv) HB.out.size) (Kd.R_nil _ _ _ _ _))
      have hO2 : Kd.S KGS 106 w2 w.heap.size (fun k => True ∧ ¬ (wr.alloc (.cells fcs.toArray 93)).heap.size ≤ k) u5 ((fs.take k).map mkG) := Kd.S_mono (Kd.S_old HO.out hb2) fun k hk => ⟨trivial, by omega⟩
      generalize (wr.alloc (.cells fcs.toArray 93)).heap.size = hz at HOK HMP hO2
      replace HB := Aside0.mk (below_step HB.out hb2)
      replace HO := Aside0.mk hO2
      have HLEN : Hid ((((fs.take k).map mkG).length + 1) * 48 ≤ 140737488351232) := Lib.hid (by rw [List.length_map, List.length_take]; omega)
      clear hv hb2 hO2
      go_wp2_with (first | ((with_reducible refine Fl.wpList_lit_one rfl 61 106 (.tmp 20) rfl ([.slice Av f.1.length cv, .slice none 0 0]).toArray ?tx Try.underlying61 (.agg #[.slice none 0 0, .slice none 0 0]) ?ti ?tp ?ts ?_); (case tx => rfl); (case ti => exact (by kernel_rfl)); (case tp => show 0 < 2; decide); (case ts => show 2 ≤ 2 ^ 24; decide)) | (at_builtin; go_loud (refine Kd.S_append KGS (w0 := w) w.heap.size rfl (.tmp 17) (.tmp 21) 61 106 (.agg #[.slice none 0 0, .slice none 0 0]) 48 rfl Try.underlying61 infoSrc rfl (by decide) (by omega) u5 (((fs.take k).map mkG)) ((⟨f.1, []⟩ : GS)) ([.slice Av f.1.length cv, .slice none 0 0]) (fun _ => True) (fun k => hz ≤ k) rfl rfl ?aP HOK.out ?aF ?aO ?aB ?aS ?aL ?_); (case aP => exact HMP.out); (case aB => exact HB.out); (case aF => exact (fun _ _ => trivial)); (case aO => exact HO.out); (case aS => exact below_size HB.out); (case aL => have := HLEN.out; omega); intro v1 wq ho hb hg hat; have HO1 := Aside0.mk ho; have HB1 := Aside0.mk hb))
      go_roundw
      case rel => exact ⟨k + 1, by omega, by go_num, ⟨by rw [HT.out]; exact HO1.out⟩, HB1⟩
      case measure => simp [intOf]; omega
    · have ek : fs.take k = fs := by rw [show k = fs.length by omega, List.take_length]
      rw [ek] at HO
      go_wp2
      go_ret
      exact ⟨_, rfl, HO.out, HB.out⟩
end Cr
end Go.Proofs.Ytjeeakhgjcbhaaa
set_option linter.unusedVariables false
set_option linter.unusedSimpArgs false
namespace Go.Proofs.Ytjeeakhgjcbhaaa
open Go.RowKit Go.Proofs.YtjeeakhgjcbhaaaW.PrintWords Go.Proofs.YtjeeakhgjcbhaaaW Go.Proofs.YtjeeakhgjcbhaaaW.PrintMore
namespace Cr
open Wd Vl Mt Sa PCreateGlues
set_option maxHeartbeats 8000000 in
set_option maxRecDepth 100000 in
theorem Glue_any (m : MetaD) (cs : List Value) (A : Option Addr) (c : Nat) (ds : List (List Int)) (w : World) (hK : KMeta.K w m cs) (hG : GMeta m) (hr : KBt.C w A ds.length ds) :
    Calls Try.prog 29 #[.agg cs.toArray, .slice A ds.length c] w fun e w' => ∃ A' c', e = .returned (.tuple #[.slice A' (glueR m ds).1.length c', .int .i64 (glueR m ds).2]) ∧ (glueR m ds).1.length ≤ c' ∧ KGS.C w' A' (glueR m ds).1.length (glueR m ds).1 ∧ Below w.heap.size w w' := by
  have HX := Aside0.mk (Bx.first w hK)
  have HR := Aside0.mk hr
  obtain ⟨AF, cF, AL, cL, AI, cI, AT, cT, e0, hF, _⟩ := meta_open hK
  have HF := Aside0.mk hF
  have HC2 : Hid (∀ (g : Nat) (W : World), Bx w m g cs W → W.cell? ⟨g, 2, none⟩ = some (.slice AF m.2.2.1.length cF)) := Lib.hid fun g W h => h.load 2 _ (by rw [e0]; rfl)
  have HFA := Lib.hid (fun W (h : KMeta.K W m cs) => fault_any m cs W h hG)
  have HPA := Lib.hid (fun (h0 : cfault m = 0) W (h : KMeta.K W m cs) => cPlaces_any m cs W h hG h0)
  have HTA := Lib.hid (fun W (h : KFile.C W AF m.2.2.1.length m.2.2.1) => turnF_any AF cF m.2.2.1 W h hG.2.1.1 (fun f hf => (hG.2.1.2 f hf).1))
  have E0 : Hid (glueR m ds = if cfault m = 0 then (if ds.length = (pls m.2.1 m.2.2.1 0).length then (match glN (gl0 m) (pls m.2.1 m.2.2.1 0) ds (pls m.2.1 m.2.2.1 0).length with | some o => (o, 0) | none => ([], 94)) else ([], 94)) else ([], cfault m)) := Lib.hid rfl
  have HFO := Lib.hid (fun (h0 : cfault m = 0) => (⟨(cfault_ok h0).2.1, (cfault_ok h0).2.2.2.2.2, pls_small h0, pls_fst m.2.1 m.2.2.1 0, (cfault_ok h0).2.2.1⟩ : 0 < m.2.2.1.length ∧ (pls m.2.1 m.2.2.1 0).length ≤ 65536 ∧ (∀ p ∈ pls m.2.1 m.2.2.1 0, p.2.2.2 ≤ 16777216) ∧ (∀ p ∈ pls m.2.1 m.2.2.1 0, 0 ≤ p.1 ∧ p.1 < 0 + (m.2.2.1.length : Int)) ∧ m.2.2.1.length ≤ 4096))
  clear hF hK hG e0 hr
  go_enter Try.func29, Try.ntmps29
  go_wp2_with ((with_reducible refine Fl.wpList_load rfl 46 (.tmp 2) rfl (⟨w.heap.size, 0, none⟩) ?lx (cs) _ ?lc Try.underlying46 rfl ?li ?_); (case lx => rfl); (case lc => exact HX.out.load); (case li => exact HX.out.info))
  go_at_call 53
  refine (HFA.out _ HX.out.k).mono ?_
  rintro e w1 ⟨rfl, hb1⟩
  replace HX := Aside0.mk (HX.out.below hb1)
  clear hb1 HFA
  generalize hfe : cfault m = fe at *
  by_cases h0 : fe = 0
  · subst h0
    have E1 := Lib.hid (E0.out.trans (if_pos rfl))
    have HPL := Lib.hid (HPA.out rfl)
    obtain ⟨hn0, hmany, hsm, hfst, hn4⟩ := HFO.out rfl
    have HSM := Lib.hid hsm
    have HFST := Lib.hid hfst
    clear E0 hfe HPA HFO hsm hfst
    go_wp2_with ((with_reducible refine Fl.wpList_load rfl 46 (.tmp 2) rfl (⟨w.heap.size, 0, none⟩) ?lx (cs) _ ?lc Try.underlying46 rfl ?li ?_); (case lx => rfl); (case lc => exact HX.out.load); (case li => exact HX.out.info))
    go_at_call 59
    refine (HPL.out _ HX.out.k).mono ?_
    rintro e wc ⟨A4, c4, rfl, hC4, hb4⟩
    replace HX := Aside0.mk (HX.out.below hb4)
    have HC4 := Aside0.mk hC4
    have HSML := Lib.hid (glN_small m (pls m.2.1 m.2.2.1 0) ds HSM.out)
    clear hb4 hC4 HPL
    generalize pls m.2.1 m.2.2.1 0 = L at *
    by_cases hl : ds.length = L.length
    · have b1 : ((ds.length : Int) == (L.length : Int)) = true := by simp [hl]
      have b2 : ((ds.length : Int) != (L.length : Int)) = false := by simp [hl]
      have b3 : (ds.length == L.length) = true := by simp [hl]
      have E2 := Lib.hid (E1.out.trans (if_pos hl))
      have HL := Lib.hid hl
      have hx2 := HC2.out _ _ HX.out
      clear E1 hl
      go_wp2_with fail
      go_at_call 60
      refine (HTA.out _ (Kd.C_below HF.out HX.out.bel)).mono ?_
      rintro e w5 ⟨v8, rfl, hv, hb5⟩
      have HWC := Aside0.mk HX.out.bel
      have hgl : (gl0 m).length = m.2.2.1.length := by unfold gl0; rw [List.length_map]
      have hG0 : m.2.2.1.map mkG = gl0 m := rfl
      rw [hG0] at hv
      obtain ⟨g, cap, rfl, hgb, _, _⟩ := Kd.S_form hv (by rw [hgl]; exact hn0)
      rw [hgl] at hv ⊢
      have HGL := Lib.hid hgl
      have HGB0 := Lib.hid hgb
      have HS0 := Aside0.mk hv
      have HB0 := Aside0.mk hb5
      clear hv hb5 hx2 hG0 hgl hgb HTA
      go_wp2
      go_loopw [28] (fun i wz => ∃ (k : Nat) (o : List GS), k ≤ L.length ∧ i = .int .i64 k ∧ Hid (glN (gl0 m) L ds k = some o) ∧ Aside0 (Kd.S KGS 106 wz wc.heap.size (fun _ => True) (.slice (some ⟨g, 0, none⟩) m.2.2.1.length cap) o) ∧ Aside0 (Below wc.heap.size wc wz)) (fun i _ => L.length - (intOf i).toNat)
      case atStart => exact ⟨0, gl0 m, by omega, rfl, Lib.hid rfl, HS0, HB0⟩
      case round =>
        clear HS0 HB0
        obtain ⟨k, o, hk, rfl, HN, HS, HB⟩ := hrel
        by_cases hlt : k < L.length
        · have hlt2 : k < ds.length := by have := HL.out; omega
          have hlt2' : (k : Int) < (ds.length : Int) := by omega
          obtain ⟨ad, e0, hcp⟩ := Fl.at_flat (0, 0, 0, 0) HC4.out k hlt
          subst e0
          change ∀ j u, (encPl (pAt L k))[j]? = some u → wc.cell? (ad.add (k * 4 + j)) = some u at hcp
          have hpi := HFST.out (pAt L k) (nth_mem (0, 0, 0, 0) L k hlt)
          have hps := HSM.out (pAt L k) (nth_mem (0, 0, 0, 0) L k hlt)
          have HNS := Lib.hid (glN_succ (gl0 m) L ds k o HN.out)
          have HNF := Lib.hid (fun h => glN_fail (gl0 m) L ds k h L.length hlt)
          have hol := glN_len (gl0 m) L ds k o HN.out
          have hsm9 := HSML.out k o hk HN.out
          obtain ⟨pad, pcs, ep, _, hKd, hpcs⟩ := Kd.C_get HR.out [] (k : Int) (by omega) (by omega)
          rw [Int.toNat_natCast] at hKd hpcs
          change ∀ j u, pcs[j]? = some u → w.cell? (pad.add (k * 1 + j)) = some u at hpcs
          change KBt.K w (dAt ds k) pcs at hKd
          subst ep
          generalize pAt L k = p at *
          generalize dAt ds k = d at *
          obtain ⟨Pd, cd, rfl, hcd, hd⟩ := hKd
          have HPD : Hid (w.cell? (pad.add k) = some (.slice Pd d.length cd)) := Lib.hid (by have := hpcs 0 _ rfl; rwa [Nat.mul_one, Nat.add_zero] at this)
          have HDC := Aside0.mk hd
          have HY : Hid (∀ j u, (encPl p)[j]? = some u → wr.cell? ((ad.add (k * 4)).add j) = some u) := Lib.hid fun j u hj => by
            rw [Go.Deep.add_add]
            exact cell_stay HB.out (hcp j u hj)
          clear hcp hpcs hcd hd
          go_upto_region 11 with (first | ((with_reducible refine Fl.wpList_load rfl 53 (.tmp 31) rfl (ad.add (k * 4)) ?lx ((encPl p)) _ ?lc Try.underlying53 rfl ?li ?_); (case lx => rfl); (case lc => exact HY.out); (case li => exact (by kernel_rfl))) | ((with_reducible refine Fl.wpList_store_fresh rfl 53 (.tmp 10) (.tmp 32) rfl 53 _ ((encPl p)).toArray ?sx ?sy ?si ?so ?s1 ?_); (case sx => rfl); (case sy => rfl); (case si => exact (by kernel_rfl)); (case so => exact rfl); (case s1 => exact Fl.all_one (encPl_one p))))
          have hgf := heap_alloc_new wr (.cells (encPl p).toArray 53)
          have hba := below_alloc (Below.refl wr.heap.size wr) (.cells (encPl p).toArray 53)
          replace HB := Aside0.mk (below_step HB.out hba)
          replace HS := Aside0.mk (Kd.S_below HS.out hba)
          clear hba HY
          generalize wr.alloc (.cells (encPl p).toArray 53) = wf at *
          generalize wr.heap.size = gp at *
          obtain ⟨wr, hwr⟩ : ∃ wr, wr = wf := ⟨_, rfl⟩
          rw [← hwr] at hgf HB HS ⊢
          clear hwr
          have HGP := Aside0.mk hgf
          have hgp3 : wr.cell? ⟨gp, 3, none⟩ = some (.int .i64 p.2.2.2) := Go.Joins.cell_of_block hgf 3
          have hpd := cell_stay (below_step HWC.out HB.out) HPD.out
          clear hgf
          obtain ⟨ix, hix⟩ : ∃ ix : Nat, p.1 = ix := ⟨p.1.toNat, by omega⟩
          have hixl : ix < m.2.2.1.length := by omega
          have hixl' : (ix : Int) < (m.2.2.1.length : Int) := by omega
          by_cases hde : (d.length : Int) = p.2.2.2
          · have d1 : ((d.length : Int) == p.2.2.2) = true := beq_iff_eq.2 hde
            have d2 : ((d.length : Int) != p.2.2.2) = false := by simp [hde]
            have hds : d.length ≤ 16777216 := by omega
            have HN2 : Hid (glN (gl0 m) L ds (k + 1) = some (glStep o p d)) := Lib.hid (HNS.out.trans (if_pos hde))
            have HOL := Lib.hid hol
            have HSM9 := Lib.hid hsm9
            have hk6 : k ≤ 65536 := by omega
            have HIX := Lib.hid hix
            clear HNS HNF hde hol hsm9 hps hpi hix
            refine PrintLast.start_ (n := 8) (S := fun w' => Below wr.heap.size wr w') (ds := []) #[false, false, false, false, false, false, false, false] (by kernel_rfl) rfl rfl (below_drew1 (Below.refl _ _)) (fun hHeld => ?_)
            generalize wr.drew = W0 at *
            refine PrintLast.pure_ (i := 0) (N := some 33) (v := ?_) (a' := ?_) #[true, false, false, false, false, false, false, false] rfl rfl (by kernel_rfl) (fun _ _ _ h => h) (Or.inl ⟨by rfl, ?_⟩) ?_ ?_
            rotate_left
            · intro w'
              go_simp
              with_reducible rfl
            rotate_left
            · simp only [Act.put, List.setIfInBounds_toArray, List.set_cons_zero, List.set_cons_succ]
              rfl
            refine PrintLast.pure_ (i := 1) (N := some 34) (v := ?_) (a' := ?_) #[true, true, false, false, false, false, false, false] rfl rfl (by kernel_rfl) (fun _ _ _ h => h) (Or.inl ⟨by rfl, ?_⟩) ?_ ?_
            rotate_left
            · intro w'
              go_simp
              with_reducible rfl
            rotate_left
            · simp only [Act.put, List.setIfInBounds_toArray, List.set_cons_zero, List.set_cons_succ]
              rfl
            refine PrintLast.pure_ (i := 2) (N := some 35) (v := ?_) (a' := ?_) #[true, true, true, false, false, false, false, false] rfl rfl (by kernel_rfl) (fun _ _ _ h => h) (Or.inl ⟨by rfl, ?_⟩) ?_ ?_
            rotate_left
            · intro w'
              go_simp
              with_reducible rfl
            rotate_left
            · simp only [Act.put, List.setIfInBounds_toArray, List.set_cons_zero, List.set_cons_succ]
              rfl
            refine PrintLast.take_ (i := 3) (N := some 36) (v := ?_) (a' := ?_) #[true, true, true, true, false, false, false, false] rfl rfl (by kernel_rfl) (fun _ _ _ h => h) (Or.inl ⟨by rfl, ?_⟩) hHeld ?_ ?_
            rotate_left
            · intro w' s0
              (have g1 := cell_stay s0 hpd; go_simp; with_reducible rfl)
            rotate_left
            · simp only [Act.put, List.setIfInBounds_toArray, List.set_cons_zero, List.set_cons_succ]
              rfl
            refine PrintLast.pure_ (i := 4) (N := some 37) (v := ?_) (a' := ?_) #[true, true, true, true, true, false, false, false] rfl rfl (by kernel_rfl) (fun _ _ _ h => h) (Or.inl ⟨by rfl, ?_⟩) ?_ ?_
            rotate_left
            · intro w'
              go_simp
              with_reducible rfl
            rotate_left
            · simp only [Act.put, List.setIfInBounds_toArray, List.set_cons_zero, List.set_cons_succ]
              rfl
            refine PrintLast.pure_ (i := 5) (N := some 38) (v := ?_) (a' := ?_) #[true, true, true, true, true, true, false, false] rfl rfl (by kernel_rfl) (fun _ _ _ h => h) (Or.inl ⟨by rfl, ?_⟩) ?_ ?_
            rotate_left
            · intro w'
              go_simp
              with_reducible rfl
            rotate_left
            · simp only [Act.put, List.setIfInBounds_toArray, List.set_cons_zero, List.set_cons_succ]
              rfl
            refine PrintLast.take_ (i := 6) (N := some 39) (v := ?_) (a' := ?_) #[true, true, true, true, true, true, true, false] rfl rfl (by kernel_rfl) (fun _ _ _ h => h) (Or.inl ⟨by rfl, ?_⟩) hHeld ?_ ?_
            rotate_left
            · intro w' s0
              (have g1 := cell_stay s0 hgp3; go_simp; with_reducible rfl)
            rotate_left
            · simp only [Act.put, List.setIfInBounds_toArray, List.set_cons_zero, List.set_cons_succ]
              rfl
            refine PrintLast.pure_ (i := 7) (N := some 40) (v := ?_) (a' := ?_) #[true, true, true, true, true, true, true, true] rfl rfl (by kernel_rfl) (fun _ _ _ h => h) (Or.inl ⟨by rfl, ?_⟩) ?_ ?_
            rotate_left
            · intro w'
              go_simp
              with_reducible rfl
            rotate_left
            · simp only [Act.put, List.setIfInBounds_toArray, List.set_cons_zero, List.set_cons_succ]
              rfl
            refine PrintLast.done_ (by kernel_rfl) ?_
            replace HB := Aside0.mk (below_step HB.out hHeld)
            replace HS := Aside0.mk (Kd.S_below HS.out hHeld)
            replace HGP := Aside0.mk (blk_below HGP.out hHeld)
            clear hHeld hgp3 hpd
            go_upto_region 13 with fail
            generalize W0 = wr at *
            have hgp0 : wr.drew.cell? ⟨gp, 0, none⟩ = some (.int .i64 (ix : Int)) := (Go.Joins.cell_of_block HGP.out 0).trans (by rw [← HIX.out]; rfl)
            have HP0 : Hid ((encPl p).toArray[0]? = some (.int .i64 (ix : Int))) := Lib.hid (by rw [← HIX.out]; rfl)
            have HSE : Kd.S KGS 106 wr.drew wc.heap.size (fun k => True ∧ ¬ wr.drew.heap.size ≤ k) (.slice (some ⟨g, 0, none⟩) m.2.2.1.length cap) o := Kd.S_mono (Kd.S_bound (Kd.S_drew HS.out)) fun k hk => ⟨trivial, by have := hk.2.2.1; omega⟩
            obtain ⟨oki, ecs, hel, hM, hec, _, hoki, hH⟩ := Kd.S_elem HSE g0 (ix : Int) (by omega) (by omega)
            rw [Int.toNat_natCast] at hM hec
            have hsv : (o.getD ix g0).f1.length ≤ k * 16777216 := HSM9.out (o.getD ix g0) (nth_mem g0 o ix (by rw [HOL.out, HGL.out]; exact hixl))
            have HSX : Hid (glStep o p d = o.set ix ⟨(o.getD ix g0).f0, (o.getD ix g0).f1 ++ d⟩) := Lib.hid (by unfold glStep; rw [HIX.out, Int.toNat_natCast])
            have hgx : ∃ cells, wr.heap[g]? = some (.cells cells 106 (0, 0)) := by
              obtain ⟨g', cap', e, _, _, cells, hc⟩ := Kd.S_form HS.out (by rw [HOL.out, HGL.out]; omega)
              injection e with e
              injection e with e
              injection e with e
              exact ⟨cells, by rw [e]; exact hc⟩
            obtain ⟨cells, hgc⟩ := hgx
            generalize o.getD ix g0 = s at *
            obtain ⟨v0, vv, rfl, hv0, hvv⟩ := k106_openM hM
            obtain ⟨A1, c1, rfl⟩ := Kd.R_slice hvv
            have hge : wr.drew.cell? ⟨g, ix * 2 + 1, none⟩ = some (.slice A1 s.f1.length c1) := hec 1 _ rfl
            have hpd : wr.drew.cell? (pad.add k) = some (.slice Pd d.length cd) := cell_stay (below_step HWC.out HB.out) HPD.out
            have HO1 := Aside0.mk hvv
            have HV0 := Aside0.mk hv0
            have HRD := Aside0.mk (Kd.C_below HDC.out (below_step (below_step HWC.out HB.out) (below_drew1 (Below.refl _ _))))
            have HLN : Hid ((s.f1.length + d.length) * 1 ≤ 140737488355328) := Lib.hid (by have h9 : k * 16777216 ≤ 65536 * 16777216 := Nat.mul_le_mul_right _ hk6; omega)
            replace HB := Aside0.mk (below_step HB.out (below_drew1 (Below.refl _ _)))
            replace HGP := Aside0.mk (blk_drew HGP.out)
            have HGB := Aside0.mk (blk_drew hgc)
            have HH := Aside0.mk hH
            have HOI := Lib.hid hoki
            clear hv0 hvv hH hM hec hel HSE hgc hsv HSM9 hoki hds hk6
            refine PrintLast.start_ (n := 17) (S := fun w' => w'.cell? ⟨gp, 0, none⟩ = some (.int .i64 (ix : Int)) ∧ w'.cell? ⟨g, ix * 2 + 1, none⟩ = some (.slice A1 s.f1.length c1) ∧ w'.cell? (pad.add k) = some (.slice Pd d.length cd)) (ds := [16]) #[false, false, false, false, false, false, false, false, false, false, false, false, false, false, false, false, false] (by kernel_rfl) rfl rfl ⟨hgp0, hge, hpd⟩ (fun hHeld => ?_)
            generalize wr.drew = W0 at *
            refine PrintLast.pure_ (i := 0) (N := some 41) (v := ?_) (a' := ?_) #[true, false, false, false, false, false, false, false, false, false, false, false, false, false, false, false, false] rfl rfl (by kernel_rfl) (fun _ _ _ h => h) (Or.inl ⟨by rfl, ?_⟩) ?_ ?_
            rotate_left
            · intro w'
              go_simp
              with_reducible rfl
            rotate_left
            · simp only [Act.put, List.setIfInBounds_toArray, List.set_cons_zero, List.set_cons_succ]
              rfl
            refine PrintLast.pure_ (i := 1) (N := some 42) (v := ?_) (a' := ?_) #[true, true, false, false, false, false, false, false, false, false, false, false, false, false, false, false, false] rfl rfl (by kernel_rfl) (fun _ _ _ h => h) (Or.inl ⟨by rfl, ?_⟩) ?_ ?_
            rotate_left
            · intro w'
              go_simp
              with_reducible rfl
            rotate_left
            · simp only [Act.put, List.setIfInBounds_toArray, List.set_cons_zero, List.set_cons_succ]
              rfl
            refine PrintLast.take_ (i := 2) (N := some 43) (v := ?_) (a' := ?_) #[true, true, true, false, false, false, false, false, false, false, false, false, false, false, false, false, false] rfl rfl (by kernel_rfl) (fun _ _ _ h => h) (Or.inl ⟨by rfl, ?_⟩) hHeld ?_ ?_
            rotate_left
            · rintro w' ⟨s0, s1, s2⟩
              (have g1 := s0; go_simp; with_reducible rfl)
            rotate_left
            · simp only [Act.put, List.setIfInBounds_toArray, List.set_cons_zero, List.set_cons_succ]
              rfl
            refine PrintLast.pure_ (i := 3) (N := some 44) (v := ?_) (a' := ?_) #[true, true, true, true, false, false, false, false, false, false, false, false, false, false, false, false, false] rfl rfl (by kernel_rfl) (fun _ _ _ h => h) (Or.inl ⟨by rfl, ?_⟩) ?_ ?_
            rotate_left
            · intro w'
              go_simp
              with_reducible rfl
            rotate_left
            · simp only [Act.put, List.setIfInBounds_toArray, List.set_cons_zero, List.set_cons_succ]
              rfl
            refine PrintLast.pure_ (i := 4) (N := some 45) (v := ?_) (a' := ?_) #[true, true, true, true, true, false, false, false, false, false, false, false, false, false, false, false, false] rfl rfl (by kernel_rfl) (fun _ _ _ h => h) (Or.inl ⟨by rfl, ?_⟩) ?_ ?_
            rotate_left
            · intro w'
              go_simp
              with_reducible rfl
            rotate_left
            · simp only [Act.put, List.setIfInBounds_toArray, List.set_cons_zero, List.set_cons_succ]
              rfl
            refine PrintLast.take_ (i := 5) (N := some 46) (v := ?_) (a' := ?_) #[true, true, true, true, true, true, false, false, false, false, false, false, false, false, false, false, false] rfl rfl (by kernel_rfl) (fun _ _ _ h => h) (Or.inl ⟨by rfl, ?_⟩) hHeld ?_ ?_
            rotate_left
            · rintro w' ⟨s0, s1, s2⟩
              (have g1 := s0; go_simp; with_reducible rfl)
            rotate_left
            · simp only [Act.put, List.setIfInBounds_toArray, List.set_cons_zero, List.set_cons_succ]
              rfl
            refine PrintLast.pure_ (i := 6) (N := some 47) (v := ?_) (a' := ?_) #[true, true, true, true, true, true, true, false, false, false, false, false, false, false, false, false, false] rfl rfl (by kernel_rfl) (fun _ _ _ h => h) (Or.inl ⟨by rfl, ?_⟩) ?_ ?_
            rotate_left
            · intro w'
              go_simp
              with_reducible rfl
            rotate_left
            · simp only [Act.put, List.setIfInBounds_toArray, List.set_cons_zero, List.set_cons_succ]
              rfl
            refine PrintLast.pure_ (i := 7) (N := some 48) (v := ?_) (a' := ?_) #[true, true, true, true, true, true, true, true, false, false, false, false, false, false, false, false, false] rfl rfl (by kernel_rfl) (fun _ _ _ h => h) (Or.inl ⟨by rfl, ?_⟩) ?_ ?_
            rotate_left
            · intro w'
              go_simp
              with_reducible rfl
            rotate_left
            · simp only [Act.put, List.setIfInBounds_toArray, List.set_cons_zero, List.set_cons_succ]
              rfl
            refine PrintLast.take_ (i := 8) (N := some 49) (v := ?_) (a' := ?_) #[true, true, true, true, true, true, true, true, true, false, false, false, false, false, false, false, false] rfl rfl (by kernel_rfl) (fun _ _ _ h => h) (Or.inl ⟨by rfl, ?_⟩) hHeld ?_ ?_
            rotate_left
            · rintro w' ⟨s0, s1, s2⟩
              (have g1 := s1; go_simp; with_reducible rfl)
            rotate_left
            · simp only [Act.put, List.setIfInBounds_toArray, List.set_cons_zero, List.set_cons_succ]
              rfl
            refine PrintLast.pure_ (i := 9) (N := some 50) (v := ?_) (a' := ?_) #[true, true, true, true, true, true, true, true, true, true, false, false, false, false, false, false, false] rfl rfl (by kernel_rfl) (fun _ _ _ h => h) (Or.inl ⟨by rfl, ?_⟩) ?_ ?_
            rotate_left
            · intro w'
              go_simp
              with_reducible rfl
            rotate_left
            · simp only [Act.put, List.setIfInBounds_toArray, List.set_cons_zero, List.set_cons_succ]
              rfl
            refine PrintLast.pure_ (i := 10) (N := some 51) (v := ?_) (a' := ?_) #[true, true, true, true, true, true, true, true, true, true, true, false, false, false, false, false, false] rfl rfl (by kernel_rfl) (fun _ _ _ h => h) (Or.inl ⟨by rfl, ?_⟩) ?_ ?_
            rotate_left
            · intro w'
              go_simp
              with_reducible rfl
            rotate_left
            · simp only [Act.put, List.setIfInBounds_toArray, List.set_cons_zero, List.set_cons_succ]
              rfl
            refine PrintLast.pure_ (i := 11) (N := some 52) (v := ?_) (a' := ?_) #[true, true, true, true, true, true, true, true, true, true, true, true, false, false, false, false, false] rfl rfl (by kernel_rfl) (fun _ _ _ h => h) (Or.inl ⟨by rfl, ?_⟩) ?_ ?_
            rotate_left
            · intro w'
              go_simp
              with_reducible rfl
            rotate_left
            · simp only [Act.put, List.setIfInBounds_toArray, List.set_cons_zero, List.set_cons_succ]
              rfl
            refine PrintLast.take_ (i := 12) (N := some 53) (v := ?_) (a' := ?_) #[true, true, true, true, true, true, true, true, true, true, true, true, true, false, false, false, false] rfl rfl (by kernel_rfl) (fun _ _ _ h => h) (Or.inl ⟨by rfl, ?_⟩) hHeld ?_ ?_
            rotate_left
            · rintro w' ⟨s0, s1, s2⟩
              (have g1 := s2; go_simp; with_reducible rfl)
            rotate_left
            · simp only [Act.put, List.setIfInBounds_toArray, List.set_cons_zero, List.set_cons_succ]
              rfl
            refine PrintLast.one_ (i := 13) (N := some 54) #[true, true, true, true, true, true, true, true, true, true, true, true, true, true, false, false, false] rfl rfl (by kernel_rfl) (by decide) (fun K hK => ?_)
            refine Kd.R_append_rows_step (Kd.int .u8) (w0 := wc) wc.heap.size (by rfl) (.tmp 49) (.tmp 53) 103 5 (.int .u8 0) 1 rfl Try.underlying103 infoU8 rfl (by decide) (by omega) (.slice A1 s.f1.length c1) s.f1 d Pd d.length cd (fun k => oki k ∨ W0.heap.size ≤ k) (fun _ => False) (by rfl) (by rfl) (Kd.R_mono HO1.out fun _ h => Or.inl h) HRD.out (fun _ _ h => h) (fun _ h => h.elim) (fun k hk => Or.inr hk) HB.out HB.out.size HLN.out ?_
            rintro v1 W1 ho hb hg hat
            obtain ⟨A2, c2, rfl⟩ := Kd.R_slice ho
            obtain ⟨n2, hn2⟩ : ∃ n2, n2 = (s.f1 ++ d).length := ⟨_, rfl⟩
            rw [← hn2] at ho ⊢
            clear hn2
            have hng : some g ≠ (Value.slice A1 s.f1.length c1).ownBlock := Kd.R_ne HO1.out HGB.out (by decide)
            have hcg : ∀ j, W1.cell? ⟨g, j, none⟩ = W0.cell? ⟨g, j, none⟩ := fun j => World.cell?_of_block (hg.block g (Mt.blk_lt HGB.out) hng)
            have HGP1 := blk_grown HGP.out hg (Kd.R_ne HO1.out HGP.out (by decide))
            have HS3 : W1.cell? ⟨gp, 0, none⟩ = some (.int .i64 (ix : Int)) ∧ W1.cell? ⟨g, ix * 2 + 1, none⟩ = some (.slice A1 s.f1.length c1) ∧ W1.cell? (pad.add k) = some (.slice Pd d.length cd) := ⟨(Go.Joins.cell_of_block HGP1 0).trans HP0.out, (hcg _).trans hge, cell_stay (below_step HWC.out hb) HPD.out⟩
            refine hK.out _ _ HS3 (fun hHeld => ?_)
            clear hK K
            refine PrintLast.norm_ (a' := ?_) ?_ ?_
            rotate_left
            · show Act.put _ (some 54) _ = _
              simp only [Act.put, List.setIfInBounds_toArray, List.set_cons_zero, List.set_cons_succ]
              rfl
            have hfz : W1.frozen? ⟨g, ix * 2 + 1, none⟩ = false := by have := HGB.out; have h2 := hg.block g (Mt.blk_lt this) hng; exact blk_frozen (h2.trans this) _
            have hge1 := HS3.2.1
            refine PrintLast.pure_ (i := 14) (N := some 55) (v := ?_) (a' := ?_) #[true, true, true, true, true, true, true, true, true, true, true, true, true, true, true, false, false] rfl rfl (by kernel_rfl) (fun _ _ _ h => h) (Or.inl ⟨by rfl, ?_⟩) ?_ ?_
            rotate_left
            · intro w'
              go_simp
              with_reducible rfl
            rotate_left
            · simp only [Act.put, List.setIfInBounds_toArray, List.set_cons_zero, List.set_cons_succ]
              rfl
            refine PrintLast.pure_ (i := 15) (N := some 56) (v := ?_) (a' := ?_) #[true, true, true, true, true, true, true, true, true, true, true, true, true, true, true, true, false] rfl rfl (by kernel_rfl) (fun _ _ _ h => h) (Or.inl ⟨by rfl, ?_⟩) ?_ ?_
            rotate_left
            · intro w'
              go_simp
              with_reducible rfl
            rotate_left
            · simp only [Act.put, List.setIfInBounds_toArray, List.set_cons_zero, List.set_cons_succ]
              rfl
            refine PrintLast.last_ (i := 16) (N := none) #[true, true, true, true, true, true, true, true, true, true, true, true, true, true, true, true, true] rfl rfl (by kernel_rfl) (by decide) (fun K hK => ?_)
            refine PrintLast.skip_ (w1 := W1.setCell ⟨g, ix * 2 + 1, none⟩ (.slice A2 n2 c2)) (by rfl) rfl ?_ ?_
            · (have g1 := hge1; have g2 := hfz; go_simp; try rfl)
            refine hK.out _ _ ?_
            clear hK K
            refine PrintLast.done_ (by kernel_rfl) ?_
            have hgl : g < W0.heap.size := Mt.blk_lt HGB.out
            have hrow : ∀ q, (Value.slice A1 s.f1.length c1).ownBlock = some q → oki q := fun q hq => HO1.out.1 q hq
            have hH1 := Kd.H_grown HH.out hg hrow
            have hv01 : Kd.string.R 9 W1 wc.heap.size oki v0 s.f0 := Kd.R_over HV0.out HO1.out (by decide) hg
            have hM1 : KGS.M W1 wc.heap.size (fun q => oki q ∨ W0.heap.size ≤ q) ⟨s.f0, s.f1 ++ d⟩ ([v0, .slice A1 s.f1.length c1].take 1 ++ [.slice A2 n2 c2] ++ [v0, .slice A1 s.f1.length c1].drop (1 + 1)) := k106_mkM W1 _ _ ⟨s.f0, s.f1 ++ d⟩ (Kd.R_mono hv01 fun _ h => Or.inl h) ho
            have hS2 := Kd.S_seg (seg := [.slice A2 n2 c2]) (j := 1) hH1 (by omega) (by omega) (by show 1 + 1 ≤ 2; omega) hM1 (fun q h => h) (fun q h => ⟨trivial, by omega⟩)
            rw [Int.toNat_natCast] at hS2
            have HS2 := Aside0.mk hS2.1
            have HB2 := Aside0.mk (below_set (j := ix * 2 + 1) (v := .slice A2 n2 c2) hb HGB0.out)
            clear hS2 hM1 hv01 hH1 hrow ho hb hg hat hng hcg HGP1 HS3 hfz hge1 hgp0 hge hpd
            go_wp2
            go_roundw
            case rel => exact ⟨k + 1, glStep o p d, by omega, by go_num, HN2, ⟨by rw [HSX.out]; exact HS2.out⟩, HB2⟩
            case measure => simp [intOf]; omega
          · have d1 : ((d.length : Int) == p.2.2.2) = false := beq_eq_false_iff_ne.2 hde
            have d2 : ((d.length : Int) != p.2.2.2) = true := by simp [hde]
            have E3 : Hid (glueR m ds = ([], 94)) := Lib.hid (by rw [E2.out, HNF.out (HNS.out.trans (if_neg hde))])
            clear HNS HNF hde
            refine PrintLast.start_ (n := 8) (S := fun w' => Below wr.heap.size wr w') (ds := []) #[false, false, false, false, false, false, false, false] (by kernel_rfl) rfl rfl (below_drew1 (Below.refl _ _)) (fun hHeld => ?_)
            generalize wr.drew = W0 at *
            refine PrintLast.pure_ (i := 0) (N := some 33) (v := ?_) (a' := ?_) #[true, false, false, false, false, false, false, false] rfl rfl (by kernel_rfl) (fun _ _ _ h => h) (Or.inl ⟨by rfl, ?_⟩) ?_ ?_
            rotate_left
            · intro w'
              go_simp
              with_reducible rfl
            rotate_left
            · simp only [Act.put, List.setIfInBounds_toArray, List.set_cons_zero, List.set_cons_succ]
              rfl
            refine PrintLast.pure_ (i := 1) (N := some 34) (v := ?_) (a' := ?_) #[true, true, false, false, false, false, false, false] rfl rfl (by kernel_rfl) (fun _ _ _ h => h) (Or.inl ⟨by rfl, ?_⟩) ?_ ?_
            rotate_left
            · intro w'
              go_simp
              with_reducible rfl
            rotate_left
            · simp only [Act.put, List.setIfInBounds_toArray, List.set_cons_zero, List.set_cons_succ]
              rfl
            refine PrintLast.pure_ (i := 2) (N := some 35) (v := ?_) (a' := ?_) #[true, true, true, false, false, false, false, false] rfl rfl (by kernel_rfl) (fun _ _ _ h => h) (Or.inl ⟨by rfl, ?_⟩) ?_ ?_
            rotate_left
            · intro w'
              go_simp
              with_reducible rfl
            rotate_left
            · simp only [Act.put, List.setIfInBounds_toArray, List.set_cons_zero, List.set_cons_succ]
              rfl
            refine PrintLast.take_ (i := 3) (N := some 36) (v := ?_) (a' := ?_) #[true, true, true, true, false, false, false, false] rfl rfl (by kernel_rfl) (fun _ _ _ h => h) (Or.inl ⟨by rfl, ?_⟩) hHeld ?_ ?_
            rotate_left
            · intro w' s0
              (have g1 := cell_stay s0 hpd; go_simp; with_reducible rfl)
            rotate_left
            · simp only [Act.put, List.setIfInBounds_toArray, List.set_cons_zero, List.set_cons_succ]
              rfl
            refine PrintLast.pure_ (i := 4) (N := some 37) (v := ?_) (a' := ?_) #[true, true, true, true, true, false, false, false] rfl rfl (by kernel_rfl) (fun _ _ _ h => h) (Or.inl ⟨by rfl, ?_⟩) ?_ ?_
            rotate_left
            · intro w'
              go_simp
              with_reducible rfl
            rotate_left
            · simp only [Act.put, List.setIfInBounds_toArray, List.set_cons_zero, List.set_cons_succ]
              rfl
            refine PrintLast.pure_ (i := 5) (N := some 38) (v := ?_) (a' := ?_) #[true, true, true, true, true, true, false, false] rfl rfl (by kernel_rfl) (fun _ _ _ h => h) (Or.inl ⟨by rfl, ?_⟩) ?_ ?_
            rotate_left
            · intro w'
              go_simp
              with_reducible rfl
            rotate_left
            · simp only [Act.put, List.setIfInBounds_toArray, List.set_cons_zero, List.set_cons_succ]
              rfl
            refine PrintLast.take_ (i := 6) (N := some 39) (v := ?_) (a' := ?_) #[true, true, true, true, true, true, true, false] rfl rfl (by kernel_rfl) (fun _ _ _ h => h) (Or.inl ⟨by rfl, ?_⟩) hHeld ?_ ?_
            rotate_left
            · intro w' s0
              (have g1 := cell_stay s0 hgp3; go_simp; with_reducible rfl)
            rotate_left
            · simp only [Act.put, List.setIfInBounds_toArray, List.set_cons_zero, List.set_cons_succ]
              rfl
            refine PrintLast.pure_ (i := 7) (N := some 40) (v := ?_) (a' := ?_) #[true, true, true, true, true, true, true, true] rfl rfl (by kernel_rfl) (fun _ _ _ h => h) (Or.inl ⟨by rfl, ?_⟩) ?_ ?_
            rotate_left
            · intro w'
              go_simp
              with_reducible rfl
            rotate_left
            · simp only [Act.put, List.setIfInBounds_toArray, List.set_cons_zero, List.set_cons_succ]
              rfl
            refine PrintLast.done_ (by kernel_rfl) ?_
            have HBF := Lib.hid (below_step HWC.out (below_step HB.out hHeld))
            go_wp2
            go_ret2
            exact ⟨none, 0, by rw [E3.out]; rfl, by rw [E3.out]; exact Nat.le_refl _, by rw [E3.out]; exact Kd.C_nil _ _, HBF.out⟩
        · have ek : k = L.length := by omega
          rw [ek] at HN
          have E3 : Hid (glueR m ds = (o, 0)) := Lib.hid (by rw [E2.out, HN.out])
          obtain ⟨hnl, hcp, hC⟩ := Kd.S_reads' HS.out
          have HC := Aside0.mk hC
          have HCP : Hid (o.length ≤ cap) := Lib.hid (by rw [← hnl]; exact hcp)
          rw [hnl]
          clear ek hC hcp hnl
          go_wp2
          go_ret2
          exact ⟨some ⟨g, 0, none⟩, cap, by rw [E3.out]; rfl, by rw [E3.out]; exact HCP.out, by rw [E3.out]; exact HC.out, below_step HWC.out HB.out⟩
    · have b1 : ((ds.length : Int) == (L.length : Int)) = false := by simp; omega
      have b2 : ((ds.length : Int) != (L.length : Int)) = true := by simp; omega
      have b3 : (ds.length == L.length) = false := by simpa using hl
      have E2 := Lib.hid (E1.out.trans (if_neg hl))
      go_wp2
      go_ret2
      exact ⟨none, 0, by rw [E2.out]; rfl, by rw [E2.out]; exact Nat.le_refl _, by rw [E2.out]; exact Kd.C_nil _ _, HX.out.bel⟩
  · have E1 := Lib.hid (E0.out.trans (if_neg h0))
    have d2 : (fe == 0) = false := by simp [h0]
    have d3 : (fe != 0) = true := by simp [h0]
    go_wp2
    go_ret2
    exact ⟨none, 0, by rw [E1.out]; rfl, by rw [E1.out]; exact Nat.le_refl _, by rw [E1.out]; exact Kd.C_nil _ _, HX.out.bel⟩
end Cr
end Go.Proofs.Ytjeeakhgjcbhaaa
set_option linter.unusedVariables false
set_option linter.unusedSimpArgs false
namespace Go.Proofs.Ytjeeakhgjcbhaaa
open Go.RowKit Go.Proofs.YtjeeakhgjcbhaaaW.PrintWords Go.Proofs.YtjeeakhgjcbhaaaW Go.Proofs.YtjeeakhgjcbhaaaW.PrintMore
namespace Cr
open Wd Vl Mt Sa PCreateGlues
theorem names_go (xs : List ByteArray) (hm : xs.length ≤ 8796093021952) : ∀ (d k i : Nat), xs.length - i = d → i ≤ xs.length → d < k → torrentref9_names.l0 k xs (xs.take i) (i : Int) = some xs
  | 0, k, i, hd, hi, hk => by
    obtain ⟨k, rfl⟩ : ∃ m, k = m + 1 := ⟨k - 1, by omega⟩
    simp only [torrentref9_names.l0]
    rw [if_neg (by omega), List.take_of_length_le (by omega)]
  | d + 1, k, i, hd, hi, hk => by
    obtain ⟨k, rfl⟩ : ∃ m, k = m + 1 := ⟨k - 1, by omega⟩
    have h1 : i < xs.length := by omega
    have e : xs.take i ++ [rdOf ByteArray.empty xs (i : Int)] = xs.take (i + 1) := by
      rw [List.take_succ_eq_append_getElem h1]
      simp [rdOf, h1]
    simp only [torrentref9_names.l0]
    rw [if_pos (by omega), if_pos (by omega), if_pos (by rw [List.length_take]; omega), e, show wrap64 ((i : Int) + 1) = ((i + 1 : Nat) : Int) from (w64 (by omega) (by omega)).trans (by omega)]
    exact names_go xs hm d k (i + 1) (by omega) (by omega) (by omega)
theorem names_any (A : Option Addr) (c : Nat) (xs : List ByteArray) (w : World) (hr : Kd.string.C w A xs.length xs) (hc : xs.length ≤ c) (hm : xs.length * 16 ≤ 140737488351232) :
    Calls Try.prog 63 #[.slice A xs.length c] w fun e w' => ∃ A' c', e = .returned (.slice A' xs.length c') ∧ Kd.string.R 9 w' w.heap.size (fun _ => True) (.slice A' xs.length c') xs ∧ Below w.heap.size w w' :=
  (torrentref9_names.calls (xs.length + 1) A c xs xs w hr hc (names_go xs (by omega) xs.length _ 0 (by omega) (by omega) (by omega))).mono fun e w' ⟨v, he, hs, hb⟩ => by
    obtain ⟨A', c', e1⟩ := Kd.R_slice hs
    subst e1
    exact ⟨A', c', he, hs, hb⟩
set_option maxHeartbeats 8000000 in
set_option maxRecDepth 100000 in
theorem refGlue_any (m : MetaD) (cs : List Value) (A : Option Addr) (c : Nat) (ds : List (List Int)) (w : World) (hK : KMeta.K w m cs) (hG : GMeta m) (hr : KBt.C w A ds.length ds) :
    Calls Try.prog 30 #[.agg cs.toArray, .slice A ds.length c] w fun e w' => ∃ A' c', e = .returned (.tuple #[.slice A' (glueR m ds).1.length c', .int .i64 (glueR m ds).2]) ∧ (glueR m ds).1.length ≤ c' ∧ KGS.C w' A' (glueR m ds).1.length (glueR m ds).1 ∧ Below w.heap.size w w' := by
  have HX := Aside0.mk (Bx.first w hK)
  have HR := Aside0.mk hr
  obtain ⟨AF, cF, AL, cL, AI, cI, AT, cT, e0, hF, _⟩ := meta_open hK
  have HF := Aside0.mk hF
  have HC2 : Hid (∀ (g : Nat) (W : World), Bx w m g cs W → W.cell? ⟨g, 2, none⟩ = some (.slice AF m.2.2.1.length cF)) := Lib.hid fun g W h => h.load 2 _ (by rw [e0]; rfl)
  have HFA := Lib.hid (fun W (h : KMeta.K W m cs) => refFault_any m cs W h hG)
  have HPA := Lib.hid (fun (h0 : cfault m = 0) W (h : KMeta.K W m cs) => refPlaces_any m cs W h hG h0)
  have HGP := Lib.hid (fun f (hf : f ∈ m.2.2.1) => (hG.2.1.2 f hf).1)
  have E0 : Hid (glueR m ds = if cfault m = 0 then (if ds.length = (pls m.2.1 m.2.2.1 0).length then (match glN (gl0 m) (pls m.2.1 m.2.2.1 0) ds (pls m.2.1 m.2.2.1 0).length with | some o => (o, 0) | none => ([], 94)) else ([], 94)) else ([], cfault m)) := Lib.hid rfl
  have HFO := Lib.hid (fun (h0 : cfault m = 0) => (⟨(cfault_ok h0).2.1, (cfault_ok h0).2.2.2.2.2, pls_small h0, pls_fst m.2.1 m.2.2.1 0, (cfault_ok h0).2.2.1⟩ : 0 < m.2.2.1.length ∧ (pls m.2.1 m.2.2.1 0).length ≤ 65536 ∧ (∀ p ∈ pls m.2.1 m.2.2.1 0, p.2.2.2 ≤ 16777216) ∧ (∀ p ∈ pls m.2.1 m.2.2.1 0, 0 ≤ p.1 ∧ p.1 < 0 + (m.2.2.1.length : Int)) ∧ m.2.2.1.length ≤ 4096))
  clear hF hK hG e0 hr
  go_enter Try.func30, Try.ntmps30
  go_wp2_with ((with_reducible refine Fl.wpList_load rfl 46 (.tmp 2) rfl (⟨w.heap.size, 0, none⟩) ?lx (cs) _ ?lc Try.underlying46 rfl ?li ?_); (case lx => rfl); (case lc => exact HX.out.load); (case li => exact HX.out.info))
  go_at_call 56
  refine (HFA.out _ HX.out.k).mono ?_
  rintro e w1 ⟨rfl, hb1⟩
  replace HX := Aside0.mk (HX.out.below hb1)
  clear hb1 HFA
  generalize hfe : cfault m = fe at *
  by_cases h0 : fe = 0
  · subst h0
    have E1 := Lib.hid (E0.out.trans (if_pos rfl))
    have HPL := Lib.hid (HPA.out rfl)
    obtain ⟨hn0, hmany, hsm, hfst, hn4⟩ := HFO.out rfl
    have HSM := Lib.hid hsm
    have HFST := Lib.hid hfst
    clear E0 hfe HPA HFO hsm hfst
    go_wp2_with ((with_reducible refine Fl.wpList_load rfl 46 (.tmp 2) rfl (⟨w.heap.size, 0, none⟩) ?lx (cs) _ ?lc Try.underlying46 rfl ?li ?_); (case lx => rfl); (case lc => exact HX.out.load); (case li => exact HX.out.info))
    go_at_call 57
    refine (HPL.out _ HX.out.k).mono ?_
    rintro e wc ⟨A4, c4, rfl, hC4, hb4⟩
    replace HX := Aside0.mk (HX.out.below hb4)
    have HC4 := Aside0.mk hC4
    have HSML := Lib.hid (glN_small m (pls m.2.1 m.2.2.1 0) ds HSM.out)
    clear hb4 hC4 HPL
    generalize pls m.2.1 m.2.2.1 0 = L at *
    by_cases hl : ds.length = L.length
    · have b1 : ((ds.length : Int) == (L.length : Int)) = true := by simp [hl]
      have b2 : ((ds.length : Int) != (L.length : Int)) = false := by simp [hl]
      have b3 : (ds.length == L.length) = true := by simp [hl]
      have E2 := Lib.hid (E1.out.trans (if_pos hl))
      have HL := Lib.hid hl
      have hx2 := HC2.out _ _ HX.out
      have HWC := Aside0.mk HX.out.bel
      have HB0 : Aside0 (Below wc.heap.size wc wc) := ⟨Below.refl _ _⟩
      clear E1 hl
      obtain ⟨wn, hwn⟩ : ∃ wn, wn = wc := ⟨_, rfl⟩
      rw [← hwn] at hx2 ⊢
      have HB0 : Aside0 (Below wc.heap.size wc wn) := ⟨by rw [hwn]; exact Below.refl _ _⟩
      clear hwn
      go_wp2
      go_loopw [8, 9] (fun v i wz => ∃ k : Nat, k ≤ m.2.2.1.length ∧ i = .int .i64 k ∧ Aside0 (Kd.S KGS 106 wz wc.heap.size (fun _ => True) v ((m.2.2.1.take k).map mkG)) ∧ Aside0 (Below wc.heap.size wc wz)) (fun v i _ => m.2.2.1.length - (intOf i).toNat)
      case atStart => exact ⟨0, by omega, rfl, ⟨Kd.S_nil _ _ _ _ _⟩, HB0⟩
      case round =>
        clear HB0 hx2
        obtain ⟨k, hk, rfl, HO, HB⟩ := hrel
        have hx2 := HC2.out _ _ (HX.out.below HB.out)
        by_cases hlt : k < m.2.2.1.length
        · obtain ⟨ad, fcs, e0, hl35, hfk, hcs⟩ := at_file HF.out k hlt
          have E00 := Lib.hid e0
          subst e0
          change KFile.K w (m.2.2.1.getD k f0) fcs at hfk
          have hfl := HGP.out (m.2.2.1.getD k f0) (nth_mem f0 m.2.2.1 k hlt)
          have HT : Hid ((m.2.2.1.take (k + 1)).map mkG = (m.2.2.1.take k).map mkG ++ [mkG (m.2.2.1.getD k f0)]) := Lib.hid (by rw [List.take_succ_eq_append_getElem hlt, List.map_append, List.getD_eq_getElem?_getD, List.getElem?_eq_getElem hlt]; rfl)
          generalize m.2.2.1.getD k f0 = f at *
          obtain ⟨P, p, hc0, hcp, hP⟩ := f0_of hfk
          have hfp : wr.cell? (ad.add (k * 35)) = some (.slice P f.1.length p) := cell_stay (below_step HWC.out HB.out) (by have := hcs 0 _ hc0; rwa [Nat.add_zero] at this)
          have HP := Aside0.mk (Kd.C_below hP (below_step HWC.out HB.out))
          have HCP := Lib.hid hcp
          clear hfk hcs hl35 hc0 hcp hP
          go_wp2_with fail
          go_at_call 63
          refine (names_any P p f.1 wr HP.out HCP.out hfl).mono ?_
          rintro e w2 ⟨Av, cv, rfl, hv, hb2⟩
          have HOK : Hid (∀ k, wr.heap.size ≤ k → True ∧ some k ≠ u8.ownBlock) := Lib.hid fun k hk => ⟨trivial, fun e => by have := Kd.S_lt HO.out k e.symm; omega⟩
          have HMP : Hid (KGS.M w2 wc.heap.size (fun k => wr.heap.size ≤ k) (⟨f.1, []⟩ : GS) [.slice Av f.1.length cv, .slice none 0 0]) := Lib.hid (k106_mkM w2 wc.heap.size _ (⟨f.1, []⟩ : GS) (Kd.R_lower (R_okq hv) HB.out.size) (Kd.R_nil _ _ _ _ _))
          have hO2 : Kd.S KGS 106 w2 wc.heap.size (fun k => True ∧ ¬ wr.heap.size ≤ k) u8 ((m.2.2.1.take k).map mkG) := Kd.S_mono (Kd.S_old HO.out hb2) fun k hk => ⟨trivial, by omega⟩
          generalize wr.heap.size = hz at HOK HMP hO2
          replace HB := Aside0.mk (below_step HB.out hb2)
          replace HO := Aside0.mk hO2
          have HLEN : Hid ((((m.2.2.1.take k).map mkG).length + 1) * 48 ≤ 140737488351232) := Lib.hid (by rw [List.length_map, List.length_take]; omega)
          clear hv hb2 hO2 hx2 hfp
          go_wp2_with (first | ((with_reducible refine Fl.wpList_build_to rfl 106 _ rfl (#[.slice Av f.1.length cv, .slice none 0 0]) ?bf ?_); (case bf => kernel_rfl)) | ((with_reducible refine Fl.wpList_lit_one rfl 61 106 (.tmp 40) rfl ([.slice Av f.1.length cv, .slice none 0 0]).toArray ?tx Try.underlying61 (.agg #[.slice none 0 0, .slice none 0 0]) ?ti ?tp ?ts ?_); (case tx => rfl); (case ti => exact (by kernel_rfl)); (case tp => show 0 < 2; decide); (case ts => show 2 ≤ 2 ^ 24; decide)) | (at_builtin; go_loud (refine Kd.S_append KGS (w0 := wc) wc.heap.size rfl (.tmp 32) (.tmp 41) 61 106 (.agg #[.slice none 0 0, .slice none 0 0]) 48 rfl Try.underlying61 infoSrc rfl (by decide) (by omega) u8 (((m.2.2.1.take k).map mkG)) ((⟨f.1, []⟩ : GS)) ([.slice Av f.1.length cv, .slice none 0 0]) (fun _ => True) (fun k => hz ≤ k) rfl rfl ?aP HOK.out ?aF ?aO ?aB ?aS ?aL ?_); (case aP => exact HMP.out); (case aB => exact HB.out); (case aF => exact (fun _ _ => trivial)); (case aO => exact HO.out); (case aS => exact below_size HB.out); (case aL => have := HLEN.out; omega); intro v1 wq ho hb hg hat; have HO1 := Aside0.mk ho; have HB1 := Aside0.mk hb))
          go_roundw
          case rel => exact ⟨k + 1, by omega, by go_num, ⟨by rw [HT.out]; exact HO1.out⟩, HB1⟩
          case measure => simp [intOf]; omega
        · have ek : m.2.2.1.take k = m.2.2.1 := by rw [show k = m.2.2.1.length by omega, List.take_length]
          rw [ek] at HO
          have hgl : (gl0 m).length = m.2.2.1.length := by unfold gl0; rw [List.length_map]
          have hv : Kd.S KGS 106 wr wc.heap.size (fun _ => True) u8 (gl0 m) := HO.out
          obtain ⟨g, cap, rfl, hgb, _, _⟩ := Kd.S_form hv (by rw [hgl]; exact hn0)
          rw [hgl] at hv ⊢
          have HGL := Lib.hid hgl
          have HGB0 := Lib.hid hgb
          have HS0 := Aside0.mk hv
          have HB0 := HB
          clear hv hgl hgb HO HB ek
          obtain ⟨wn, hwn⟩ : ∃ wn, wn = wr := ⟨_, rfl⟩
          rw [← hwn] at HS0 HB0 hx2 ⊢
          clear hwn
          go_wp2
          clear hx2
          go_loopw [10] (fun i wz => ∃ (k : Nat) (o : List GS), k ≤ L.length ∧ i = .int .i64 k ∧ Hid (glN (gl0 m) L ds k = some o) ∧ Aside0 (Kd.S KGS 106 wz wc.heap.size (fun _ => True) (.slice (some ⟨g, 0, none⟩) m.2.2.1.length cap) o) ∧ Aside0 (Below wc.heap.size wc wz)) (fun i _ => L.length - (intOf i).toNat)
          case atStart => exact ⟨0, gl0 m, by omega, rfl, Lib.hid rfl, HS0, HB0⟩
          case round =>
            clear HS0 HB0
            obtain ⟨k, o, hk, rfl, HN, HS, HB⟩ := hrel
            by_cases hlt : k < L.length
            · have hlt2 : k < ds.length := by have := HL.out; omega
              have hlt2' : (k : Int) < (ds.length : Int) := by omega
              have hlt3' : (k : Int) < (L.length : Int) := by omega
              obtain ⟨ad, e0, hcp⟩ := Fl.at_flat (0, 0, 0, 0) HC4.out k hlt
              subst e0
              change ∀ j u, (encPl (pAt L k))[j]? = some u → wc.cell? (ad.add (k * 4 + j)) = some u at hcp
              have hpi := HFST.out (pAt L k) (nth_mem (0, 0, 0, 0) L k hlt)
              have hps := HSM.out (pAt L k) (nth_mem (0, 0, 0, 0) L k hlt)
              have HNS := Lib.hid (glN_succ (gl0 m) L ds k o HN.out)
              have HNF := Lib.hid (fun h => glN_fail (gl0 m) L ds k h L.length hlt)
              have hol := glN_len (gl0 m) L ds k o HN.out
              have hsm9 := HSML.out k o hk HN.out
              obtain ⟨pad, pcs, ep, _, hKd, hpcs⟩ := Kd.C_get HR.out [] (k : Int) (by omega) (by omega)
              rw [Int.toNat_natCast] at hKd hpcs
              change ∀ j u, pcs[j]? = some u → w.cell? (pad.add (k * 1 + j)) = some u at hpcs
              change KBt.K w (dAt ds k) pcs at hKd
              subst ep
              generalize pAt L k = p at *
              generalize dAt ds k = d at *
              obtain ⟨Pd, cd, rfl, hcd, hd⟩ := hKd
              have HPD : Hid (w.cell? (pad.add k) = some (.slice Pd d.length cd)) := Lib.hid (by have := hpcs 0 _ rfl; rwa [Nat.mul_one, Nat.add_zero] at this)
              have HDC := Aside0.mk hd
              obtain ⟨ix, hix⟩ : ∃ ix : Nat, p.1 = ix := ⟨p.1.toNat, by omega⟩
              have hixl : ix < m.2.2.1.length := by omega
              have hixl' : (ix : Int) < (m.2.2.1.length : Int) := by omega
              have HPX : Hid (∀ wz, Below wc.heap.size wc wz → wz.cell? (ad.add (k * 4)) = some (.int .i64 (ix : Int)) ∧ wz.cell? (pad.add k) = some (.slice Pd d.length cd)) := Lib.hid fun wz h => ⟨cell_stay h (by have := hcp 0 _ rfl; rwa [hix, Nat.add_zero] at this), cell_stay (below_step HWC.out h) HPD.out⟩
              have hpl3 : wr.cell? ⟨(ad.add (k * 4)).block, (ad.add (k * 4)).off + 3, none⟩ = some (.int .i64 p.2.2.2) := cell_stay HB.out (Fl.fcell 3 (by omega) (hcp 3 _ rfl))
              have hpd := (HPX.out _ HB.out).2
              clear hcp hpcs hcd hd
              by_cases hde : (d.length : Int) = p.2.2.2
              · have d1 : ((d.length : Int) == p.2.2.2) = true := beq_iff_eq.2 hde
                have d2 : ((d.length : Int) != p.2.2.2) = false := by simp [hde]
                have hds : d.length ≤ 16777216 := by omega
                have HN2 : Hid (glN (gl0 m) L ds (k + 1) = some (glStep o p d)) := Lib.hid (HNS.out.trans (if_pos hde))
                have HOL := Lib.hid hol
                have hk6 : k ≤ 65536 := by omega
                have HSX0 : Hid (glStep o p d = o.set ix ⟨(o.getD ix g0).f0, (o.getD ix g0).f1 ++ d⟩) := Lib.hid (by unfold glStep; rw [hix, Int.toNat_natCast])
                have hsv : (o.getD ix g0).f1.length ≤ k * 16777216 := hsm9 (o.getD ix g0) (nth_mem g0 o ix (by rw [HOL.out, HGL.out]; exact hixl))
                have HSV : Hid ((o.getD ix g0).f1.length + d.length ≤ 1099528404992) := Lib.hid (by have h9 : k * 16777216 ≤ 65536 * 16777216 := Nat.mul_le_mul_right _ hk6; omega)
                clear HNS HNF hde hol hsm9 hps hpi hix hsv
                go_upto_region 15 with fail
                refine PrintLast.start_ (n := 11) (S := fun w' => Below wr.heap.size wr w') (ds := []) #[false, false, false, false, false, false, false, false, false, false, false] (by kernel_rfl) rfl rfl (below_drew1 (Below.refl _ _)) (fun hHeld => ?_)
                generalize wr.drew = W0 at *
                refine PrintLast.pure_ (i := 0) (N := some 49) (v := ?_) (a' := ?_) #[true, false, false, false, false, false, false, false, false, false, false] rfl rfl (by kernel_rfl) (fun _ _ _ h => h) (Or.inl ⟨by rfl, ?_⟩) ?_ ?_
                rotate_left
                · intro w'
                  go_simp
                  with_reducible rfl
                rotate_left
                · simp only [Act.put, List.setIfInBounds_toArray, List.set_cons_zero, List.set_cons_succ]
                  rfl
                refine PrintLast.pure_ (i := 1) (N := some 50) (v := ?_) (a' := ?_) #[true, true, false, false, false, false, false, false, false, false, false] rfl rfl (by kernel_rfl) (fun _ _ _ h => h) (Or.inl ⟨by rfl, ?_⟩) ?_ ?_
                rotate_left
                · intro w'
                  go_simp
                  with_reducible rfl
                rotate_left
                · simp only [Act.put, List.setIfInBounds_toArray, List.set_cons_zero, List.set_cons_succ]
                  rfl
                refine PrintLast.pure_ (i := 2) (N := some 51) (v := ?_) (a' := ?_) #[true, true, true, false, false, false, false, false, false, false, false] rfl rfl (by kernel_rfl) (fun _ _ _ h => h) (Or.inl ⟨by rfl, ?_⟩) ?_ ?_
                rotate_left
                · intro w'
                  go_simp
                  with_reducible rfl
                rotate_left
                · simp only [Act.put, List.setIfInBounds_toArray, List.set_cons_zero, List.set_cons_succ]
                  rfl
                refine PrintLast.take_ (i := 3) (N := some 52) (v := ?_) (a' := ?_) #[true, true, true, true, false, false, false, false, false, false, false] rfl rfl (by kernel_rfl) (fun _ _ _ h => h) (Or.inl ⟨by rfl, ?_⟩) hHeld ?_ ?_
                rotate_left
                · intro w' s0
                  (have g1 := cell_stay s0 hpd; go_simp; with_reducible rfl)
                rotate_left
                · simp only [Act.put, List.setIfInBounds_toArray, List.set_cons_zero, List.set_cons_succ]
                  rfl
                refine PrintLast.pure_ (i := 4) (N := some 53) (v := ?_) (a' := ?_) #[true, true, true, true, true, false, false, false, false, false, false] rfl rfl (by kernel_rfl) (fun _ _ _ h => h) (Or.inl ⟨by rfl, ?_⟩) ?_ ?_
                rotate_left
                · intro w'
                  go_simp
                  with_reducible rfl
                rotate_left
                · simp only [Act.put, List.setIfInBounds_toArray, List.set_cons_zero, List.set_cons_succ]
                  rfl
                refine PrintLast.pure_ (i := 5) (N := some 54) (v := ?_) (a' := ?_) #[true, true, true, true, true, true, false, false, false, false, false] rfl rfl (by kernel_rfl) (fun _ _ _ h => h) (Or.inl ⟨by rfl, ?_⟩) ?_ ?_
                rotate_left
                · intro w'
                  go_simp
                  with_reducible rfl
                rotate_left
                · simp only [Act.put, List.setIfInBounds_toArray, List.set_cons_zero, List.set_cons_succ]
                  rfl
                refine PrintLast.pure_ (i := 6) (N := some 55) (v := ?_) (a' := ?_) #[true, true, true, true, true, true, true, false, false, false, false] rfl rfl (by kernel_rfl) (fun _ _ _ h => h) (Or.inl ⟨by rfl, ?_⟩) ?_ ?_
                rotate_left
                · intro w'
                  go_simp
                  with_reducible rfl
                rotate_left
                · simp only [Act.put, List.setIfInBounds_toArray, List.set_cons_zero, List.set_cons_succ]
                  rfl
                refine PrintLast.pure_ (i := 7) (N := some 56) (v := ?_) (a' := ?_) #[true, true, true, true, true, true, true, true, false, false, false] rfl rfl (by kernel_rfl) (fun _ _ _ h => h) (Or.inl ⟨by rfl, ?_⟩) ?_ ?_
                rotate_left
                · intro w'
                  go_simp
                  with_reducible rfl
                rotate_left
                · simp only [Act.put, List.setIfInBounds_toArray, List.set_cons_zero, List.set_cons_succ]
                  rfl
                refine PrintLast.pure_ (i := 8) (N := some 57) (v := ?_) (a' := ?_) #[true, true, true, true, true, true, true, true, true, false, false] rfl rfl (by kernel_rfl) (fun _ _ _ h => h) (Or.inl ⟨by rfl, ?_⟩) ?_ ?_
                rotate_left
                · intro w'
                  go_simp
                  with_reducible rfl
                rotate_left
                · simp only [Act.put, List.setIfInBounds_toArray, List.set_cons_zero, List.set_cons_succ]
                  rfl
                refine PrintLast.take_ (i := 9) (N := some 58) (v := ?_) (a' := ?_) #[true, true, true, true, true, true, true, true, true, true, false] rfl rfl (by kernel_rfl) (fun _ _ _ h => h) (Or.inl ⟨by rfl, ?_⟩) hHeld ?_ ?_
                rotate_left
                · intro w' s0
                  (have g1 := cell_stay s0 hpl3; go_simp; with_reducible rfl)
                rotate_left
                · simp only [Act.put, List.setIfInBounds_toArray, List.set_cons_zero, List.set_cons_succ]
                  rfl
                refine PrintLast.pure_ (i := 10) (N := some 59) (v := ?_) (a' := ?_) #[true, true, true, true, true, true, true, true, true, true, true] rfl rfl (by kernel_rfl) (fun _ _ _ h => h) (Or.inl ⟨by rfl, ?_⟩) ?_ ?_
                rotate_left
                · intro w'
                  go_simp
                  with_reducible rfl
                rotate_left
                · simp only [Act.put, List.setIfInBounds_toArray, List.set_cons_zero, List.set_cons_succ]
                  rfl
                refine PrintLast.done_ (by kernel_rfl) ?_
                replace HB := Aside0.mk (below_step HB.out hHeld)
                replace HS := Aside0.mk (Kd.S_below HS.out hHeld)
                clear hHeld hpl3 hpd
                obtain ⟨hpx, hpd⟩ := HPX.out _ HB.out
                obtain ⟨hz, hhz⟩ : ∃ hz, hz = W0.heap.size := ⟨_, rfl⟩
                have hSE : Kd.S KGS 106 W0 wc.heap.size (fun k => True ∧ ¬ hz ≤ k) (.slice (some ⟨g, 0, none⟩) m.2.2.1.length cap) o := Kd.S_mono (Kd.S_bound HS.out) fun k hk => ⟨trivial, by have := hk.2.2.1; omega⟩
                obtain ⟨oki, ecs, hel, hM, hec, _, hoki, hH⟩ := Kd.S_elem hSE g0 (ix : Int) (by omega) (by omega)
                rw [Int.toNat_natCast] at hM hec
                generalize o.getD ix g0 = s at *
                obtain ⟨v0, vv, rfl, hv0, hvv⟩ := k106_openM hM
                obtain ⟨A1, c1, rfl⟩ := Kd.R_slice hvv
                have hge : W0.cell? ⟨g, ix * 2 + 1, none⟩ = some (.slice A1 s.f1.length c1) := hec 1 _ rfl
                have HV00 : Aside0 (Kd.string.R 9 W0 wc.heap.size oki v0 s.f0) := ⟨hv0⟩
                have HVV0 : Aside0 ((Kd.int .u8).R 5 W0 wc.heap.size (fun k => oki k ∨ hz ≤ k) (.slice A1 s.f1.length c1) (s.f1 ++ d.take 0)) := ⟨by simpa using Kd.R_mono hvv fun _ h => Or.inl h⟩
                have HH0 := Aside0.mk hH
                have HZL0 : Hid (hz ≤ W0.heap.size) := Lib.hid (by omega)
                have HB00 := HB
                clear hSE hel hM hec hoki hH hv0 hvv hhz HS HB
                go_wp2
                clear hpx hpd hge
                go_loopw [11, 12] (fun v i wz => ∃ j : Nat, j ≤ d.length ∧ i = .int .i64 j ∧ Aside0 ((Kd.int .u8).R 5 wz wc.heap.size (fun k => oki k ∨ hz ≤ k) v (s.f1 ++ d.take j)) ∧ Aside0 (Kd.H KGS 106 wz wc.heap.size (fun k => True ∧ ¬ hz ≤ k) (.slice (some ⟨g, 0, none⟩) m.2.2.1.length cap) o (ix : Int) oki [v0, .slice A1 s.f1.length c1]) ∧ Aside0 (Kd.string.R 9 wz wc.heap.size oki v0 s.f0) ∧ Aside0 (Below wc.heap.size wc wz) ∧ Hid (hz ≤ wz.heap.size)) (fun v i _ => d.length - (intOf i).toNat)
                case atStart => exact ⟨0, by omega, rfl, HVV0, HH0, HV00, HB00, HZL0⟩
                case round =>
                  clear HVV0 HH0 HV00 HB00 HZL0
                  obtain ⟨j, hj, rfl, HV, HH, HV0, HB, HZL⟩ := hrel
                  obtain ⟨hpx, hpd⟩ := HPX.out _ HB.out
                  by_cases hjl : j < d.length
                  · have hjl' : (j : Int) < (d.length : Int) := by omega
                    obtain ⟨bd, bcs, ebd, _, hKb, hbcs⟩ := Kd.C_get (Kd.C_below HDC.out (below_step HWC.out HB.out)) 0 (j : Int) (by omega) (by omega)
                    subst ebd
                    rw [Int.toNat_natCast] at hKb hbcs
                    change ∀ q u, bcs[q]? = some u → wr.cell? (bd.add (j * 1 + q)) = some u at hbcs
                    replace hKb : bcs = [.int .u8 (d.getD j 0)] := hKb
                    subst hKb
                    have hby : wr.cell? (bd.add j) = some (.int .u8 (d.getD j 0)) := by have := hbcs 0 _ rfl; rwa [Nat.mul_one, Nat.add_zero] at this
                    have HTT : Hid (d.take (j + 1) = d.take j ++ [d.getD j 0]) := Lib.hid (by rw [List.take_succ_eq_append_getElem hjl, List.getD_eq_getElem?_getD, List.getElem?_eq_getElem hjl]; rfl)
                    have HLEN : Hid (((s.f1 ++ d.take j).length + 1) * 1 ≤ 140737488351232) := Lib.hid (by rw [List.length_append, List.length_take]; have := HSV.out; omega)
                    clear hbcs
                    generalize d.getD j 0 = x at *
                    go_wp2_with ((at_builtin; go_loud (refine Kd.R_append (Kd.int .u8) (w0 := wc) wc.heap.size rfl (.tmp 78) (.tmp 86) 103 5 (.int .u8 0) 1 rfl Try.underlying103 infoU8 rfl (by decide) (by omega) u11 ((s.f1 ++ d.take j)) (x) ([.int .u8 x]) (fun k => oki k ∨ hz ≤ k) (fun _ => False) rfl rfl ?aP (fun _ h => h.elim) ?aF ?aO ?aB ?aS ?aL ?_); (case aP => exact rfl); (case aB => exact HB.out); (case aF => exact (fun q hq => Or.inr (Nat.le_trans HZL.out hq))); (case aO => exact HV.out); (case aS => exact HB.out.size); (case aL => have := HLEN.out; omega); intro v1 wq ho hb hg hat; rw [List.append_assoc, ← HTT.out] at ho; have HV1 := Aside0.mk ho; have HB1 := Aside0.mk hb; have HH1 := Aside0.mk (Kd.H_step HH.out (fun q hk hn hlt => hg.block q hlt (fun e => (HV.out.1 q e.symm).elim hn hk.2))); have HV01 := Aside0.mk (Kd.R_over HV0.out HV.out (by decide) hg)))
                    go_roundw
                    case rel => exact ⟨j + 1, by omega, by go_num, HV1, HH1, HV01, HB1, Lib.hid (Nat.le_trans HZL.out (by have := hg.size; first | exact this | omega))⟩
                    case measure => simp [intOf]; omega
                  · have ej : d.take j = d := by rw [show j = d.length by omega, List.take_length]
                    rw [ej] at HV
                    obtain ⟨A2, c2, e2⟩ := Kd.R_slice HV.out
                    obtain ⟨n2, hn2⟩ : ∃ n2, n2 = (s.f1 ++ d).length := ⟨_, rfl⟩
                    rw [← hn2] at e2
                    subst e2
                    have HH2 := Aside0.mk (Kd.H_more (okg := fun k => hz ≤ k) HH.out (fun _ _ => trivial))
                    have HM2 : Hid (KGS.M wr wc.heap.size (fun q => oki q ∨ hz ≤ q) ⟨s.f0, s.f1 ++ d⟩ ([v0, .slice A1 s.f1.length c1].take 1 ++ [.slice A2 n2 c2] ++ [v0, .slice A1 s.f1.length c1].drop (1 + 1))) := Lib.hid (k106_mkM wr _ _ ⟨s.f0, s.f1 ++ d⟩ (Kd.R_mono HV0.out fun _ h => Or.inl h) HV.out)
                    clear hj ej hn2
                    go_wp2_with (go_loud ((with_reducible refine Kd.H_store KGS (w0 := wc) (g := g) (n := m.2.2.1.length) (cap := cap) (o' := ix * 2 + 1) wc.heap.size rfl rfl 103 (.tmp 96) (.tmp 94) rfl 106 (ix : Int) 1 o (⟨s.f0, s.f1 ++ d⟩ : GS) (.slice A2 n2 c2) [.slice A2 n2 c2] [v0, .slice A1 s.f1.length c1] (fun _ => True) (fun q => oki q ∨ hz ≤ q) (fun q => oki q ∨ hz ≤ q) ?ta ?tb ?tc ?td ?te ?tf ?tg ?th ?ti ?tj ?tk ?tl ?tm ?_); (case ta => rfl); (case tb => rfl); (case tc => rfl); (case td => rfl); (case te => kernel_rfl); (case tf => intro q hq; simp at hq; rw [hq]; rfl); (case tg => exact HH2.out); (case th => omega); (case ti => omega); (case tj => show 1 + 1 ≤ 2; omega); (case tk => exact HM2.out); (case tl => exact fun _ h => h); (case tm => exact HB.out); intro wq hq hbq hgq; rw [Int.toNat_natCast] at hq; have HS2 := Aside0.mk hq; have HB2 := Aside0.mk hbq))
                    go_roundw
                    case rel => exact ⟨k + 1, glStep o p d, by omega, by go_num, HN2, ⟨by rw [HSX0.out]; exact HS2.out⟩, HB2⟩
                    case measure => simp [intOf]; omega
              · have d1 : ((d.length : Int) == p.2.2.2) = false := beq_eq_false_iff_ne.2 hde
                have d2 : ((d.length : Int) != p.2.2.2) = true := by simp [hde]
                have E3 : Hid (glueR m ds = ([], 94)) := Lib.hid (by rw [E2.out, HNF.out (HNS.out.trans (if_neg hde))])
                clear HNS HNF hde
                go_upto_region 15 with fail
                refine PrintLast.start_ (n := 11) (S := fun w' => Below wr.heap.size wr w') (ds := []) #[false, false, false, false, false, false, false, false, false, false, false] (by kernel_rfl) rfl rfl (below_drew1 (Below.refl _ _)) (fun hHeld => ?_)
                generalize wr.drew = W0 at *
                refine PrintLast.pure_ (i := 0) (N := some 49) (v := ?_) (a' := ?_) #[true, false, false, false, false, false, false, false, false, false, false] rfl rfl (by kernel_rfl) (fun _ _ _ h => h) (Or.inl ⟨by rfl, ?_⟩) ?_ ?_
                rotate_left
                · intro w'
                  go_simp
                  with_reducible rfl
                rotate_left
                · simp only [Act.put, List.setIfInBounds_toArray, List.set_cons_zero, List.set_cons_succ]
                  rfl
                refine PrintLast.pure_ (i := 1) (N := some 50) (v := ?_) (a' := ?_) #[true, true, false, false, false, false, false, false, false, false, false] rfl rfl (by kernel_rfl) (fun _ _ _ h => h) (Or.inl ⟨by rfl, ?_⟩) ?_ ?_
                rotate_left
                · intro w'
                  go_simp
                  with_reducible rfl
                rotate_left
                · simp only [Act.put, List.setIfInBounds_toArray, List.set_cons_zero, List.set_cons_succ]
                  rfl
                refine PrintLast.pure_ (i := 2) (N := some 51) (v := ?_) (a' := ?_) #[true, true, true, false, false, false, false, false, false, false, false] rfl rfl (by kernel_rfl) (fun _ _ _ h => h) (Or.inl ⟨by rfl, ?_⟩) ?_ ?_
                rotate_left
                · intro w'
                  go_simp
                  with_reducible rfl
                rotate_left
                · simp only [Act.put, List.setIfInBounds_toArray, List.set_cons_zero, List.set_cons_succ]
                  rfl
                refine PrintLast.take_ (i := 3) (N := some 52) (v := ?_) (a' := ?_) #[true, true, true, true, false, false, false, false, false, false, false] rfl rfl (by kernel_rfl) (fun _ _ _ h => h) (Or.inl ⟨by rfl, ?_⟩) hHeld ?_ ?_
                rotate_left
                · intro w' s0
                  (have g1 := cell_stay s0 hpd; go_simp; with_reducible rfl)
                rotate_left
                · simp only [Act.put, List.setIfInBounds_toArray, List.set_cons_zero, List.set_cons_succ]
                  rfl
                refine PrintLast.pure_ (i := 4) (N := some 53) (v := ?_) (a' := ?_) #[true, true, true, true, true, false, false, false, false, false, false] rfl rfl (by kernel_rfl) (fun _ _ _ h => h) (Or.inl ⟨by rfl, ?_⟩) ?_ ?_
                rotate_left
                · intro w'
                  go_simp
                  with_reducible rfl
                rotate_left
                · simp only [Act.put, List.setIfInBounds_toArray, List.set_cons_zero, List.set_cons_succ]
                  rfl
                refine PrintLast.pure_ (i := 5) (N := some 54) (v := ?_) (a' := ?_) #[true, true, true, true, true, true, false, false, false, false, false] rfl rfl (by kernel_rfl) (fun _ _ _ h => h) (Or.inl ⟨by rfl, ?_⟩) ?_ ?_
                rotate_left
                · intro w'
                  go_simp
                  with_reducible rfl
                rotate_left
                · simp only [Act.put, List.setIfInBounds_toArray, List.set_cons_zero, List.set_cons_succ]
                  rfl
                refine PrintLast.pure_ (i := 6) (N := some 55) (v := ?_) (a' := ?_) #[true, true, true, true, true, true, true, false, false, false, false] rfl rfl (by kernel_rfl) (fun _ _ _ h => h) (Or.inl ⟨by rfl, ?_⟩) ?_ ?_
                rotate_left
                · intro w'
                  go_simp
                  with_reducible rfl
                rotate_left
                · simp only [Act.put, List.setIfInBounds_toArray, List.set_cons_zero, List.set_cons_succ]
                  rfl
                refine PrintLast.pure_ (i := 7) (N := some 56) (v := ?_) (a' := ?_) #[true, true, true, true, true, true, true, true, false, false, false] rfl rfl (by kernel_rfl) (fun _ _ _ h => h) (Or.inl ⟨by rfl, ?_⟩) ?_ ?_
                rotate_left
                · intro w'
                  go_simp
                  with_reducible rfl
                rotate_left
                · simp only [Act.put, List.setIfInBounds_toArray, List.set_cons_zero, List.set_cons_succ]
                  rfl
                refine PrintLast.pure_ (i := 8) (N := some 57) (v := ?_) (a' := ?_) #[true, true, true, true, true, true, true, true, true, false, false] rfl rfl (by kernel_rfl) (fun _ _ _ h => h) (Or.inl ⟨by rfl, ?_⟩) ?_ ?_
                rotate_left
                · intro w'
                  go_simp
                  with_reducible rfl
                rotate_left
                · simp only [Act.put, List.setIfInBounds_toArray, List.set_cons_zero, List.set_cons_succ]
                  rfl
                refine PrintLast.take_ (i := 9) (N := some 58) (v := ?_) (a' := ?_) #[true, true, true, true, true, true, true, true, true, true, false] rfl rfl (by kernel_rfl) (fun _ _ _ h => h) (Or.inl ⟨by rfl, ?_⟩) hHeld ?_ ?_
                rotate_left
                · intro w' s0
                  (have g1 := cell_stay s0 hpl3; go_simp; with_reducible rfl)
                rotate_left
                · simp only [Act.put, List.setIfInBounds_toArray, List.set_cons_zero, List.set_cons_succ]
                  rfl
                refine PrintLast.pure_ (i := 10) (N := some 59) (v := ?_) (a' := ?_) #[true, true, true, true, true, true, true, true, true, true, true] rfl rfl (by kernel_rfl) (fun _ _ _ h => h) (Or.inl ⟨by rfl, ?_⟩) ?_ ?_
                rotate_left
                · intro w'
                  go_simp
                  with_reducible rfl
                rotate_left
                · simp only [Act.put, List.setIfInBounds_toArray, List.set_cons_zero, List.set_cons_succ]
                  rfl
                refine PrintLast.done_ (by kernel_rfl) ?_
                have HBF := Lib.hid (below_step HWC.out (below_step HB.out hHeld))
                go_wp2
                go_ret2
                exact ⟨none, 0, by rw [E3.out]; rfl, by rw [E3.out]; exact Nat.le_refl _, by rw [E3.out]; exact Kd.C_nil _ _, HBF.out⟩
            · have ek : k = L.length := by omega
              rw [ek] at HN
              have E3 : Hid (glueR m ds = (o, 0)) := Lib.hid (by rw [E2.out, HN.out])
              obtain ⟨hnl, hcp, hC⟩ := Kd.S_reads' HS.out
              have HC := Aside0.mk hC
              have HCP : Hid (o.length ≤ cap) := Lib.hid (by rw [← hnl]; exact hcp)
              rw [hnl]
              clear ek hC hcp hnl
              go_wp2
              go_ret2
              exact ⟨some ⟨g, 0, none⟩, cap, by rw [E3.out]; rfl, by rw [E3.out]; exact HCP.out, by rw [E3.out]; exact HC.out, below_step HWC.out HB.out⟩
    · have b1 : ((ds.length : Int) == (L.length : Int)) = false := by simp; omega
      have b2 : ((ds.length : Int) != (L.length : Int)) = true := by simp; omega
      have b3 : (ds.length == L.length) = false := by simpa using hl
      have E2 := Lib.hid (E1.out.trans (if_neg hl))
      go_wp2
      go_ret2
      exact ⟨none, 0, by rw [E2.out]; rfl, by rw [E2.out]; exact Nat.le_refl _, by rw [E2.out]; exact Kd.C_nil _ _, HX.out.bel⟩
  · have E1 := Lib.hid (E0.out.trans (if_neg h0))
    have d2 : (fe == 0) = false := by simp [h0]
    have d3 : (fe != 0) = true := by simp [h0]
    go_wp2
    go_ret2
    exact ⟨none, 0, by rw [E1.out]; rfl, by rw [E1.out]; exact Nat.le_refl _, by rw [E1.out]; exact Kd.C_nil _ _, HX.out.bel⟩
end Cr
end Go.Proofs.Ytjeeakhgjcbhaaa
set_option linter.unusedVariables false
set_option linter.unusedSimpArgs false
namespace Go.Proofs.Ytjeeakhgjcbhaaa
open Go.RowKit Go.Proofs.YtjeeakhgjcbhaaaW.PrintWords Go.Proofs.YtjeeakhgjcbhaaaW Go.Proofs.YtjeeakhgjcbhaaaW.PrintMore
namespace Cr
open Wd Vl Mt Sa PCreateGlues
theorem pathSame_self (xs : List ByteArray) (hm : xs.length ≤ 140737488355328) : ∀ (d k i : Nat), xs.length - i = d → d < k → torrentlaw9_pathSame.l0 k xs xs (i : Int) = some true
  | 0, k, i, hd, hk => by
    obtain ⟨k, rfl⟩ : ∃ m, k = m + 1 := ⟨k - 1, by omega⟩
    simp only [torrentlaw9_pathSame.l0]
    rw [if_neg (by omega)]
  | d + 1, k, i, hd, hk => by
    obtain ⟨k, rfl⟩ : ∃ m, k = m + 1 := ⟨k - 1, by omega⟩
    have h1 : i < xs.length := by omega
    simp only [torrentlaw9_pathSame.l0]
    rw [if_pos (by omega), if_pos (by omega), if_pos (by omega), if_pos trivial, show wrap64 ((i : Int) + 1) = ((i + 1 : Nat) : Int) from (w64 (by omega) (by omega)).trans (by omega)]
    exact pathSame_self xs hm d k (i + 1) (by omega) (by omega)
theorem pathSame_val (xs : List ByteArray) (hm : xs.length ≤ 140737488355328) (k : Nat) (hk : xs.length < k) : torrentlaw9_pathSame.f k xs xs = some true := by
  unfold torrentlaw9_pathSame.f
  rw [if_pos rfl]
  exact pathSame_self xs hm xs.length k 0 (by omega) hk
theorem bytesSame_self (xs : List Int) (hm : xs.length ≤ 140737488355328) : ∀ (d k i : Nat), xs.length - i = d → d < k → torrentlaw9_bytesSame.l0 k xs xs (i : Int) = some true
  | 0, k, i, hd, hk => by
    obtain ⟨k, rfl⟩ : ∃ m, k = m + 1 := ⟨k - 1, by omega⟩
    simp only [torrentlaw9_bytesSame.l0]
    rw [if_neg (by omega)]
  | d + 1, k, i, hd, hk => by
    obtain ⟨k, rfl⟩ : ∃ m, k = m + 1 := ⟨k - 1, by omega⟩
    have h1 : i < xs.length := by omega
    simp only [torrentlaw9_bytesSame.l0]
    rw [if_pos (by omega), if_pos (by omega), if_pos (by omega), if_pos trivial, show wrap64 ((i : Int) + 1) = ((i + 1 : Nat) : Int) from (w64 (by omega) (by omega)).trans (by omega)]
    exact bytesSame_self xs hm d k (i + 1) (by omega) (by omega)
theorem bytesSame_val (xs : List Int) (hm : xs.length ≤ 140737488355328) (k : Nat) (hk : xs.length < k) : torrentlaw9_bytesSame.f k xs xs = some true := by
  unfold torrentlaw9_bytesSame.f
  rw [if_pos rfl]
  exact bytesSame_self xs hm xs.length k 0 (by omega) hk
/-- Files within the reach. -/
def GSOk (files : List GS) : Prop := files.length * 48 ≤ 140737488351232 ∧ ∀ s ∈ files, s.f0.length * 16 ≤ 140737488351232 ∧ s.f1.length ≤ 140737488351232
theorem rdT_mem {files : List GS} {i : Nat} (h : i < files.length) : rd_T106 files (i : Int) ∈ files := by
  show files.getD (i : Int).toNat g0 ∈ files
  rw [Int.toNat_natCast]
  exact nth_mem g0 files i h
theorem filesSame_self (xs : List GS) (hm : GSOk xs) : ∀ (d k i : Nat), xs.length - i = d → d + 140737488355328 < k → torrentlaw9_filesSame.l0 k xs xs (i : Int) = some true
  | 0, k, i, hd, hk => by
    obtain ⟨k, rfl⟩ : ∃ m, k = m + 1 := ⟨k - 1, by omega⟩
    simp only [torrentlaw9_filesSame.l0]
    rw [if_neg (by omega)]
  | d + 1, k, i, hd, hk => by
    obtain ⟨k, rfl⟩ : ∃ m, k = m + 1 := ⟨k - 1, by omega⟩
    have h1 : i < xs.length := by omega
    have h0 := hm.1
    have h2 := hm.2 _ (rdT_mem h1)
    simp only [torrentlaw9_filesSame.l0]
    rw [if_pos (by omega), if_pos (by omega), if_pos (by omega), pathSame_val _ (by omega) k (by omega)]
    simp only [Option.bind_some, if_true]
    rw [bytesSame_val _ (by omega) k (by omega)]
    simp only [Option.bind_some, if_true]
    rw [show wrap64 ((i : Int) + 1) = ((i + 1 : Nat) : Int) from (w64 (by omega) (by omega)).trans (by omega)]
    exact filesSame_self xs hm d k (i + 1) (by omega) (by omega)
theorem filesSame_val (xs : List GS) (hm : GSOk xs) : torrentlaw9_filesSame.f (xs.length + 140737488355329) xs xs = some true := by
  unfold torrentlaw9_filesSame.f
  rw [if_pos rfl]
  exact filesSame_self xs hm xs.length _ 0 (by omega) (by omega)
theorem piecesSame_self (xs : List (List Int)) (hl : xs.length ≤ 140737488355328) (hm : ∀ x ∈ xs, x.length ≤ 140737488355327) : ∀ (d k i : Nat), xs.length - i = d → d + 140737488355328 < k → torrentlaw9_piecesSame.l0 k xs xs (i : Int) = some true
  | 0, k, i, hd, hk => by
    obtain ⟨k, rfl⟩ : ∃ m, k = m + 1 := ⟨k - 1, by omega⟩
    simp only [torrentlaw9_piecesSame.l0]
    rw [if_neg (by omega)]
  | d + 1, k, i, hd, hk => by
    obtain ⟨k, rfl⟩ : ∃ m, k = m + 1 := ⟨k - 1, by omega⟩
    have h1 : i < xs.length := by omega
    have h2 : (rd_L3 xs (i : Int)).length ≤ 140737488355327 := hm _ (by
      show xs.getD (i : Int).toNat [] ∈ xs
      rw [Int.toNat_natCast]
      exact nth_mem [] xs i h1)
    simp only [torrentlaw9_piecesSame.l0]
    rw [if_pos (by omega), if_pos (by omega), if_pos (by omega), bytesSame_val _ (by omega) k (by omega)]
    simp only [Option.bind_some, if_true]
    rw [show wrap64 ((i : Int) + 1) = ((i + 1 : Nat) : Int) from (w64 (by omega) (by omega)).trans (by omega)]
    exact piecesSame_self xs hl hm d k (i + 1) (by omega) (by omega)
theorem piecesSame_val (xs : List (List Int)) (hl : xs.length ≤ 140737488355328) (hm : ∀ x ∈ xs, x.length ≤ 140737488355327) : torrentlaw9_piecesSame.f (xs.length + 140737488355329) xs xs = some true := by
  unfold torrentlaw9_piecesSame.f
  rw [if_pos rfl]
  exact piecesSame_self xs hl hm xs.length _ 0 (by omega) (by omega)
/-- Pieces within the reach. -/
def PcOk (ds : List (List Int)) : Prop := ds.length * 24 ≤ 140737488351232 ∧ ∀ d ∈ ds, d.length ≤ 140737488351232
theorem twinPieces_self (xs : List (List Int)) (hm : PcOk xs) : ∀ (d k i : Nat), xs.length - i = d → i ≤ xs.length → d < k → torrentlaw9_twinPieces.l0 k xs (xs.take i) (i : Int) = some xs
  | 0, k, i, hd, hi, hk => by
    obtain ⟨k, rfl⟩ : ∃ m, k = m + 1 := ⟨k - 1, by omega⟩
    simp only [torrentlaw9_twinPieces.l0]
    rw [if_neg (by omega), List.take_of_length_le (by omega)]
  | d + 1, k, i, hd, hi, hk => by
    obtain ⟨k, rfl⟩ : ∃ m, k = m + 1 := ⟨k - 1, by omega⟩
    have h1 : i < xs.length := by omega
    have h0 := hm.1
    have hr : rd_L3 xs (i : Int) = xs.getD i [] := by show xs.getD (i : Int).toNat [] = _; rw [Int.toNat_natCast]
    have h2 := hm.2 (xs.getD i []) (nth_mem [] xs i h1)
    have e : xs.take i ++ [([] : List Int) ++ rd_L3 xs (i : Int)] = xs.take (i + 1) := by
      rw [List.take_succ_eq_append_getElem h1, List.nil_append, hr, List.getD_eq_getElem?_getD, List.getElem?_eq_getElem h1]
      rfl
    simp only [torrentlaw9_twinPieces.l0]
    rw [if_pos (by omega), if_pos (by omega), if_pos (by rw [hr]; simp only [List.length_nil]; omega), if_pos (by rw [List.length_take]; omega), e, show wrap64 ((i : Int) + 1) = ((i + 1 : Nat) : Int) from (w64 (by omega) (by omega)).trans (by omega)]
    exact twinPieces_self xs hm d k (i + 1) (by omega) (by omega) (by omega)
theorem twinPieces_any (A : Option Addr) (c : Nat) (ds : List (List Int)) (w : World) (hr : KBt.C w A ds.length ds) (hc : ds.length ≤ c) (hm : PcOk ds) :
    Calls Try.prog 28 #[.slice A ds.length c] w fun e w' => ∃ A' c', e = .returned (.slice A' ds.length c') ∧ ds.length ≤ c' ∧ KBt.C w' A' ds.length ds ∧ Below w.heap.size w w' :=
  (torrentlaw9_twinPieces.calls (ds.length + 1) A c ds ds w hr hc (twinPieces_self ds hm ds.length _ 0 (by omega) (by omega) (by omega))).mono fun e w' ⟨v, he, hs, hb⟩ => by
    obtain ⟨A', c', e1, h1, h2⟩ := Kd.R_reads (Kd.S_R hs)
    exact ⟨A', c', by rw [he, e1], h1, h2, hb⟩
theorem filesSame_any (A0 : Option Addr) (c0 : Nat) (A1 : Option Addr) (c1 : Nat) (files : List GS) (w : World) (h0 : KGS.C w A0 files.length files) (hc0 : files.length ≤ c0) (h1 : KGS.C w A1 files.length files) (hc1 : files.length ≤ c1) (hm : GSOk files) :
    Calls Try.prog 31 #[.slice A0 files.length c0, .slice A1 files.length c1] w fun e w' => e = .returned (.bool true) ∧ Below w.heap.size w w' :=
  (torrentlaw9_filesSame.calls _ A0 c0 files A1 c1 files true w h0 hc0 h1 hc1 (filesSame_val files hm)).mono fun e w' ⟨he, q, hq⟩ => ⟨he, by subst hq; exact below_drewN (Below.refl _ _) q⟩
theorem piecesSame_any (A0 : Option Addr) (c0 : Nat) (A1 : Option Addr) (c1 : Nat) (xs : List (List Int)) (w : World) (h0 : KBt.C w A0 xs.length xs) (hc0 : xs.length ≤ c0) (h1 : KBt.C w A1 xs.length xs) (hc1 : xs.length ≤ c1) (hl : xs.length ≤ 140737488355328) (hm : ∀ x ∈ xs, x.length ≤ 140737488355327) :
    Calls Try.prog 32 #[.slice A0 xs.length c0, .slice A1 xs.length c1] w fun e w' => e = .returned (.bool true) ∧ Below w.heap.size w w' :=
  (torrentlaw9_piecesSame.calls _ A0 c0 xs A1 c1 xs true w h0 hc0 h1 hc1 (piecesSame_val xs hl hm)).mono fun e w' ⟨he, q, hq⟩ => ⟨he, by subst hq; exact below_drewN (Below.refl _ _) q⟩
theorem glueR_ok (m : MetaD) (hG : GMeta m) (ds : List (List Int)) : GSOk (glueR m ds).1 := by
  have hz : GSOk [] := ⟨by simp, fun s hs => by cases hs⟩
  unfold glueR
  by_cases hf : cfault m = 0
  · rw [if_pos hf]
    by_cases hl : ds.length = (pls m.2.1 m.2.2.1 0).length
    · rw [if_pos hl]
      obtain ⟨_, _, hn4, _, _, hmx⟩ := cfault_ok hf
      cases hg : glN (gl0 m) (pls m.2.1 m.2.2.1 0) ds (pls m.2.1 m.2.2.1 0).length with
      | none => exact hz
      | some o =>
        have hol := glN_len _ _ _ _ _ hg
        have hgl : (gl0 m).length = m.2.2.1.length := by unfold gl0; rw [List.length_map]
        have hsm := glN_small m _ ds (pls_small hf) _ o (Nat.le_refl _) hg
        have hpa : ∀ (k : Nat) (o : List GS), glN (gl0 m) (pls m.2.1 m.2.2.1 0) ds k = some o → ∀ s ∈ o, s.f0.length * 16 ≤ 140737488351232 := by
          intro k
          induction k with
          | zero =>
            intro o h s hs
            cases h
            obtain ⟨f, hf, rfl⟩ := List.mem_map.1 hs
            exact (hG.2.1.2 f hf).1
          | succ k ih =>
            intro o h s hs
            cases hp : glN (gl0 m) (pls m.2.1 m.2.2.1 0) ds k with
            | none => simp only [glN, hp] at h; cases h
            | some o' =>
              rw [glN_succ _ _ ds k o' hp] at h
              split at h
              · cases h
                unfold glStep at hs
                rcases List.mem_or_eq_of_mem_set hs with hs | rfl
                · exact ih o' hp s hs
                · rw [List.getD_eq_getElem?_getD]
                  cases hq : o'[(pAt (pls m.2.1 m.2.2.1 0) k).1.toNat]? with
                  | none => exact Nat.zero_le _
                  | some s' => exact ih o' hp s' (List.mem_of_getElem? hq)
              · cases h
        refine ⟨by rw [hol, hgl]; omega, fun s hs => ⟨hpa _ o hg s hs, ?_⟩⟩
        have h1 := hsm s hs
        have h2 : (pls m.2.1 m.2.2.1 0).length * 16777216 ≤ 65536 * 16777216 := Nat.mul_le_mul_right _ hmx
        exact Nat.le_trans h1 (Nat.le_trans h2 (by decide))
    · rw [if_neg hl]; exact hz
  · rw [if_neg hf]; exact hz
end Cr
end Go.Proofs.Ytjeeakhgjcbhaaa
set_option linter.unusedVariables false
set_option linter.unusedSimpArgs false
namespace Go.Proofs.Ytjeeakhgjcbhaaa
open Go.RowKit Go.Proofs.YtjeeakhgjcbhaaaW.PrintWords Go.Proofs.YtjeeakhgjcbhaaaW Go.Proofs.YtjeeakhgjcbhaaaW.PrintMore
namespace Cr
open Wd Vl Mt Sa PCreateGlues
set_option maxHeartbeats 4000000 in
set_option maxRecDepth 100000 in
theorem glues_any (m : MetaD) (cs : List Value) (A : Option Addr) (c : Nat) (ds : List (List Int)) (w : World) (hK : KMeta.K w m cs) (hG : GMeta m) (hr : KBt.C w A ds.length ds) (hc : ds.length ≤ c) (hm : PcOk ds) :
    Calls Try.prog 6 #[.agg cs.toArray, .slice A ds.length c] w fun e w' => e = .returned (.bool true) ∧ Below w.heap.size w w' := by
  have HX := Aside0.mk (Bx.first w hK)
  have HG := Lib.hid hG
  have HR0 := Aside0.mk hr
  have HRW : Hid (∀ W, Below w.heap.size w W → KBt.C W A ds.length ds) := Lib.hid fun W h => Kd.C_below HR0.out h
  have HTF := Lib.hid (fun W (h : KBt.C W A ds.length ds) => twinPieces_any A c ds W h hc hm)
  have HSA := Lib.hid (fun W (h : KMeta.K W m cs) (h' : KBt.C W A ds.length ds) => Glue_any m cs A c ds W h HG.out h')
  have HM := Lib.hid hm
  clear hK hG hr hm HR0
  go_enter Try.func6, Try.ntmps6
  have HFM := Lib.hid (fun W (h : KMeta.K W m cs) => Far.farMeta_any m cs W h)
  have HTM := Lib.hid (fun W (h : KMeta.K W m cs) => twinMeta_any m cs W h HG.out)
  go_wp2_with ((with_reducible refine Fl.wpList_load rfl 46 (.tmp 2) rfl (⟨w.heap.size, 0, none⟩) ?lx (cs) _ ?lc Try.underlying46 rfl ?li ?_); (case lx => rfl); (case lc => exact HX.out.load); (case li => exact HX.out.info))
  go_at_call 17
  refine (HFM.out _ HX.out.k).mono ?_
  rintro e w1 ⟨⟨bb, rfl⟩, hb1⟩
  replace HX := Aside0.mk (HX.out.below hb1)
  clear hb1
  clear HFM
  cases bb with
  | true =>
    go_wp2
    go_ret
    exact ⟨rfl, HX.out.bel⟩
  | false =>
    go_wp2_with fail
    go_at_call 28
    refine (HTF.out _ (HRW.out _ HX.out.bel)).mono ?_
    rintro e w2 ⟨A2, c2, rfl, hc2, hC2, hb2⟩
    replace HX := Aside0.mk (HX.out.below hb2)
    have HC2 := Aside0.mk hC2
    have HC2L := Lib.hid hc2
    clear hb2 hC2 hc2 HTF
    go_wp2_with ((with_reducible refine Fl.wpList_load rfl 46 (.tmp 2) rfl (⟨w.heap.size, 0, none⟩) ?lx (cs) _ ?lc Try.underlying46 rfl ?li ?_); (case lx => rfl); (case lc => exact HX.out.load); (case li => exact HX.out.info))
    go_at_call 18
    refine (HTM.out _ HX.out.k).mono ?_
    rintro e w3 ⟨es, rfl, hM, hb3⟩
    have QC2 := Lib.hid (fun W (h : W = w3.alloc (.cells es.toArray 46)) => (h ▸ Kd.C_alloc (Kd.C_below HC2.out hb3) _ : KBt.C W A2 ds.length ds))
    have HY0 : Hid (∀ W, W = w3.alloc (.cells es.toArray 46) → Bx w m w3.heap.size es W) := Lib.hid (by rintro _ rfl; exact Bx.twin (below_step HX.out.bel hb3) hb3.size hb3 hM)
    have QHX := Lib.hid ((HX.out.below hb3).alloc_ (.cells es.toArray 46))
    have hyk := HY0.out _ rfl
    have HSZ := Lib.hid (sizeM hyk.sz)
    have HI := Lib.hid hyk.info'
    have HO := Lib.hid (KMeta.K_one hyk.k)
    clear hyk hb3 hM HTM HX
    go_upto_region 5 with (((with_reducible refine Fl.wpList_store_fresh rfl 46 (.tmp 6) (.tmp 16) rfl 46 _ (es).toArray ?sx ?sy ?si ?so ?s1 ?_); (case sx => rfl); (case sy => rfl); (case si => exact HI.out); (case so => exact HSZ.out); (case s1 => exact Fl.all_one HO.out)))
    obtain ⟨W3, h3⟩ : ∃ W, W = w3.alloc (.cells es.toArray 46) := ⟨_, rfl⟩
    have HX := Aside0.mk (QHX.out _ h3)
    have HY := Aside0.mk (HY0.out _ h3)
    replace HC2 := Aside0.mk (QC2.out _ h3)
    clear QC2
    rw [← h3]
    clear h3 HY0 HSZ HI HO QHX
    generalize w3.heap.size = g at *
    have HRS := Lib.hid (fun W (h : KMeta.K W m es) (h' : KBt.C W A2 ds.length ds) => refGlue_any m es A2 c2 ds W h HG.out h')
    have HSY := Lib.hid (fun W (h : KMeta.K W m cs) (h' : KMeta.K W m es) => stays_any m cs es W h h' HG.out)
    have HOK := Lib.hid (glueR_ok m HG.out ds)
    generalize (glueR m ds).1 = sl at *
    generalize (glueR m ds).2 = se at *
    go_wp2_with ((with_reducible refine Fl.wpList_load rfl 46 (.tmp 2) rfl (⟨w.heap.size, 0, none⟩) ?lx (cs) _ ?lc Try.underlying46 rfl ?li ?_); (case lx => rfl); (case lc => exact HX.out.load); (case li => exact HX.out.info))
    go_at_call 29
    refine (HSA.out _ HX.out.k (HRW.out _ HX.out.bel)).mono ?_
    rintro e w4 ⟨A4, c4, rfl, hc4, hC4, hb4⟩
    replace HX := Aside0.mk (HX.out.below hb4)
    replace HY := Aside0.mk (HY.out.below hb4)
    replace HC2 := Aside0.mk (Kd.C_below HC2.out hb4)
    have HC4 := Aside0.mk hC4
    have HC4L := Lib.hid hc4
    clear hb4 hC4 hc4 HSA
    go_wp2_with ((with_reducible refine Fl.wpList_load rfl 46 (.tmp 6) rfl (⟨g, 0, none⟩) ?lx (es) _ ?lc Try.underlying46 rfl ?li ?_); (case lx => rfl); (case lc => exact HY.out.load); (case li => exact HY.out.info))
    go_at_call 30
    refine (HRS.out _ HY.out.k HC2.out).mono ?_
    rintro e w5 ⟨A5, c5, rfl, hc5, hC5, hb5⟩
    replace HX := Aside0.mk (HX.out.below hb5)
    replace HY := Aside0.mk (HY.out.below hb5)
    replace HC2 := Aside0.mk (Kd.C_below HC2.out hb5)
    replace HC4 := Aside0.mk (Kd.C_below HC4.out hb5)
    have HC5 := Aside0.mk hC5
    have HC5L := Lib.hid hc5
    clear hb5 hC5 hc5 HRS
    go_wp2_with fail
    go_at_call 31
    refine (filesSame_any A4 c4 A5 c5 sl w5 HC4.out HC4L.out HC5.out HC5L.out HOK.out).mono ?_
    rintro e w6 ⟨rfl, hb6⟩
    replace HX := Aside0.mk (HX.out.below hb6)
    replace HY := Aside0.mk (HY.out.below hb6)
    replace HC2 := Aside0.mk (Kd.C_below HC2.out hb6)
    clear hb6 HC4 HC5
    go_wp2_with fail
    go_at_call 32
    refine (piecesSame_any A c A2 c2 ds w6 (HRW.out _ HX.out.bel) hc HC2.out HC2L.out (by have := HM.out.1; omega) (fun x hx => by have := HM.out.2 x hx; omega)).mono ?_
    rintro e w7 ⟨rfl, hb7⟩
    replace HX := Aside0.mk (HX.out.below hb7)
    replace HY := Aside0.mk (HY.out.below hb7)
    clear hb7 HC2
    go_wp2_with (first | ((with_reducible refine Fl.wpList_load_w 46 (.tmp 2) rfl ?lg (⟨w.heap.size, 0, none⟩) ?lx (cs) _ ?lc Try.underlying46 rfl ?li ?_); (case lg => rfl); (case lx => rfl); (case lc => exact HX.out.load); (case li => exact HX.out.info)) | ((with_reducible refine Fl.wpList_load_w 46 (.tmp 6) rfl ?lg (⟨g, 0, none⟩) ?lx (es) _ ?lc Try.underlying46 rfl ?li ?_); (case lg => rfl); (case lx => rfl); (case lc => exact HY.out.load); (case li => exact HY.out.info)))
    go_at_call 27
    refine (HSY.out _ HX.out.k HY.out.k).mono ?_
    rintro e w12 ⟨rfl, hb12⟩
    go_wp2
    go_ret
    exact ⟨rfl, below_step HX.out.bel hb12⟩
end Cr
end Go.Proofs.Ytjeeakhgjcbhaaa
set_option linter.unusedVariables false
set_option linter.unusedSimpArgs false
namespace Go.Proofs.Ytjeeakhgjcbhaaa.LawCreateGlues
open Go.ChangeShapes Go.WideShapes Go.ChangeAt Go.RowKit Go.Proofs.YtjeeakhgjcbhaaaW.PrintWords
theorem own : ownKnob Try.prog.godebug = none := by kernel_rfl
theorem laidOut : laidOutB Try.prog = true := by kernel_rfl
open Go.Proofs.Ytjeeakhgjcbhaaa.Mt Go.Proofs.Ytjeeakhgjcbhaaa.Cr
set_option maxRecDepth 100000 in
theorem lifted (os : Os) (started : os.Started) (H : Type) (enc : TypeId × Value → H) :
    ReturnsInHanded {} Try.checked os 6 .any (Rows.createGluesSpec.pre6 enc Try.prog Try.f6 Rows.createGluesRow.domain false) (Rows.createGluesSpec.post enc Try.prog Try.f6 false true false false) := by
  refine Rw.lifted_law (tb := 4) own started (by kernel_rfl) Try.func6
    (ChangeSpec.witness6 (enc := enc) (C := Try.checked) false ⟨#[], #[.agg #[.string ⟨#[]⟩, .int .i64 0, .slice none 0 0, .slice none 0 0, .slice none 0 0, .slice none 0 0], .slice none 0 0], []⟩ 8 (by kernel_rfl) (by kernel_rfl) (by kernel_rfl) (by kernel_rfl)) laidOut (by kernel_rfl) rfl Try.underlying4 rfl ?_ ?_
  · intro ds hds
    rw [Try.params6] at hds
    match ds, hds with
    | [d0, d1], _ => rfl
  · intro W args ds p base hval hA hz
    rw [Try.params6] at hA hz hval
    obtain ⟨v0, vs0, ds0, p0, x0, hargs, hK0, hG0, hA1, hz1⟩ := Rw.open_arg opens_meta hA hz
    obtain ⟨v1, vs1, ds1, p1, x1, rfl, hK1, hG1, hA2, hz2⟩ := Rw.open_arg (Rw.opens_slice Try.underlying59 (by kernel_rfl) (Rw.opens_slice Try.underlying103 (by kernel_rfl) (Rw.opens_int Try.underlying5))) hA1 hz1
    obtain rfl := Rw.open_end (args := args) hA2
    obtain rfl : args = #[v0, v1] := by cases args; simp_all
    obtain ⟨cs0, rfl, _⟩ := okWide_struct Try.underlying46 (hval 0 46 _ rfl rfl)
    obtain ⟨c0, rfl⟩ : ∃ c : List Value, cs0 = c.toArray := ⟨cs0.toList, by simp⟩
    replace hK0 : KMeta.K W x0 c0 := hK0
    obtain ⟨A1, c1, hK1', hc1, hr1⟩ := hK1
    obtain ⟨a1, n1, d1, rfl⟩ := okWide_slice Try.underlying59 (hval 1 59 _ rfl rfl)
    have e1 : [Value.slice a1 n1 d1] = [Value.slice A1 x1.length c1] := hK1'
    injection e1 with e1
    injection e1 with e1a e1b e1c
    subst e1a e1b e1c
    have hb1 : Try.prog.bytesOf 103 = 24 := by kernel_rfl
    have hb2 : Try.prog.bytesOf 5 = 1 := by kernel_rfl
    obtain ⟨g1, g2⟩ := hG1
    rw [hb1] at g1
    rw [hb2] at g2
    unfold reachBytes at g1 g2
    exact glues_any _ _ _ _ _ W hK0 hG0 hr1 hc1 ⟨g1, fun d hd => by have := (g2 d hd).1; omega⟩
theorem over : Rows.createGluesRow.holds Try.pinned (OpenSpec.ofChange Rows.createGluesSpec) :=
  OpenClaim.holds_of_wide 6 Try.f6 rfl rfl rfl rfl rfl rfl rfl ⟨rfl, rfl, rfl, rfl, rfl⟩ rfl rfl rfl rfl rfl (by kernel_rfl) Try.func6 (by kernel_rfl)
    (of_decide_eq_true (by kernel_rfl)) (by unfold Func.isWrapper; first | (rw [if_pos (by decide +kernel)]; kernel_rfl) | (rw [if_neg (by decide +kernel)]; exact ⟨rfl, rfl⟩))
    (fun os started H enc _ => lifted os started H enc)
/-- The statement. -/
theorem proved : Rows.CreateGluesSaid := over
#print axioms proved
end Go.Proofs.Ytjeeakhgjcbhaaa.LawCreateGlues
