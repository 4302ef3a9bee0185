/- torrentlaw9.CreateSlices: for every metainfo and files create's Slice answers as the document does, and nothing that was handed in is changed or kept. No condition beyond the form's own. -/
import Derived.Test.YtjeeakhgjcbhaaaUCs1
import Derived.Test.YtjeeakhgjcbhaaaPCreateSlicesx
set_option linter.unusedVariables false
set_option linter.unusedSimpArgs false
namespace Go.Proofs.Ytjeeakhgjcbhaaa
open Go.RowKit Go.Proofs.YtjeeakhgjcbhaaaW.PrintWords Go.Proofs.YtjeeakhgjcbhaaaW Go.Proofs.YtjeeakhgjcbhaaaW.PrintMore
namespace Cr
open Wd Vl Mt Sa PCreateSlices
abbrev Src := S106
abbrev KSrc : Kd Src := k106
def s0 : Src := z106
def pEq (f : FileD) (s : Src) : Bool := decide (s.f0 = f.1)
def seekR (files : List Src) (f : FileD) : Int := match files.findIdx? (pEq f) with | some i => (i : Int) | none => -1
theorem seek_at {files : List Src} {f : FileD} {k : Nat} (hk : k < files.length) (h : ∀ s ∈ files.take k, pEq f s = false) (he : pEq f (files.getD k s0) = true) : files.findIdx? (pEq f) = some k := by
  rw [List.getD_eq_getElem?_getD, List.getElem?_eq_getElem hk] at he
  refine List.findIdx?_eq_some_iff_getElem.2 ⟨hk, he, fun j hj => ?_⟩
  have := h (files[j]) (List.mem_take_iff_getElem.2 ⟨j, by omega, rfl⟩)
  simp [this]
theorem seek_none {files : List Src} {f : FileD} (h : ∀ s ∈ files, pEq f s = false) : files.findIdx? (pEq f) = none := List.findIdx?_eq_none_iff.2 h
theorem take_all {files : List Src} {p : Src → Bool} {k : Nat} (hk : k < files.length) (h : ∀ s ∈ files.take k, p s = false) (he : p (files.getD k s0) = false) : ∀ s ∈ files.take (k + 1), p s = false := by
  rw [List.take_succ_eq_append_getElem hk]
  rw [List.getD_eq_getElem?_getD, List.getElem?_eq_getElem hk] at he
  intro s hs
  rcases List.mem_append.1 hs with hs | hs
  · exact h s hs
  · rw [List.mem_singleton.1 hs]; exact he
/-- The place of the one file that is meant. -/
def matchAt (files : List Src) (f : FileD) : Option Nat :=
  match files.findIdx? (pEq f) with
  | none => none
  | some i => if (files.drop (i + 1)).any (pEq f) then none else if ((files.getD i s0).f1.length : Int) = f.2.1 then some i else none
def mAll (files : List Src) : List FileD → Option (List Nat)
  | [] => some []
  | f :: l => match matchAt files f with
    | none => none
    | some i => (mAll files l).map (i :: ·)
theorem mAll_snoc (files : List Src) : ∀ (l : List FileD) (f : FileD) (is : List Nat), mAll files l = some is → mAll files (l ++ [f]) = (matchAt files f).map fun i => is ++ [i]
  | [], f, is, h => by
    cases h
    simp only [List.nil_append, mAll]
    cases matchAt files f <;> rfl
  | g :: l, f, is, h => by
    simp only [mAll] at h
    cases hg : matchAt files g with
    | none => rw [hg] at h; cases h
    | some i =>
      rw [hg] at h
      cases hl : mAll files l with
      | none => rw [hl] at h; cases h
      | some js =>
        rw [hl] at h
        cases h
        simp only [List.cons_append, mAll, hg, mAll_snoc files l f js hl]
        cases matchAt files f <;> rfl
theorem mAll_fail (files : List Src) : ∀ (l : List FileD) (k : Nat), k < l.length → matchAt files (l.getD k f0) = none → mAll files l = none
  | [], _, h, _ => by simp at h
  | g :: l, 0, _, h => by simp only [List.getD_cons_zero] at h; simp only [mAll, h]
  | g :: l, k + 1, hk, h => by
    simp only [List.getD_cons_succ] at h
    simp only [mAll, mAll_fail files l k (by simpa using hk) h]
    cases matchAt files g <;> rfl
theorem mAll_len (files : List Src) : ∀ (l : List FileD) (is : List Nat), mAll files l = some is → is.length = l.length
  | [], is, h => by cases h; rfl
  | g :: l, is, h => by
    simp only [mAll] at h
    cases hg : matchAt files g with
    | none => rw [hg] at h; cases h
    | some i =>
      rw [hg] at h
      cases hl : mAll files l with
      | none => rw [hl] at h; cases h
      | some js => rw [hl] at h; cases h; simp [mAll_len files l js hl]
theorem matchAt_lt {files : List Src} {f : FileD} {i : Nat} (h : matchAt files f = some i) : i < files.length ∧ ((files.getD i s0).f1.length : Int) = f.2.1 := by
  unfold matchAt at h
  cases hf : files.findIdx? (pEq f) with
  | none => rw [hf] at h; cases h
  | some j =>
    rw [hf] at h
    simp only at h
    obtain ⟨hj, _⟩ := List.findIdx?_eq_some_iff_getElem.1 hf
    split at h
    · cases h
    · split at h
      · cases h; exact ⟨hj, by assumption⟩
      · cases h
theorem mAll_get (files : List Src) : ∀ (l : List FileD) (is : List Nat), mAll files l = some is → ∀ k, k < l.length → is.getD k 0 < files.length ∧ ((files.getD (is.getD k 0) s0).f1.length : Int) = (l.getD k f0).2.1
  | [], is, h, k, hk => by simp at hk
  | g :: l, is, h, k, hk => by
    simp only [mAll] at h
    cases hg : matchAt files g with
    | none => rw [hg] at h; cases h
    | some i =>
      rw [hg] at h
      cases hl : mAll files l with
      | none => rw [hl] at h; cases h
      | some js =>
        rw [hl] at h
        cases h
        cases k with
        | zero => exact matchAt_lt hg
        | succ k => exact mAll_get files l js hl k (by simpa using hk)
/-- Which files are meant by a metainfo's. -/
def mt (files : List Src) (m : MetaD) : Option (List Nat) := if files.length = m.2.2.1.length then mAll files m.2.2.1 else none
def dat (files : List Src) (is : List Nat) : List (List Int) := is.map fun i => (files.getD i s0).f1
/-- How the reference finds the one that is meant: it counts, and keeps the last. -/
def lastIx (files : List Src) (f : FileD) : Nat → Nat
  | 0 => 0
  | k + 1 => if pEq f (files.getD k s0) = true then k else lastIx files f k
def cntIx (files : List Src) (f : FileD) (k : Nat) : Nat := ((files.take k).filter (pEq f)).length
theorem cntIx_succ (files : List Src) (f : FileD) (k : Nat) (hk : k < files.length) : cntIx files f (k + 1) = cntIx files f k + (if pEq f (files.getD k s0) = true then 1 else 0) := by
  unfold cntIx
  rw [List.take_succ_eq_append_getElem hk, List.filter_append, List.length_append, List.getD_eq_getElem?_getD, List.getElem?_eq_getElem hk]
  by_cases h : pEq f files[k] = true <;> simp [h]
theorem matchAt_ref (files : List Src) (f : FileD) : matchAt files f = if cntIx files f files.length = 1 ∧ ((files.getD (lastIx files f files.length) s0).f1.length : Int) = f.2.1 then some (lastIx files f files.length) else none := by
  unfold matchAt
  cases hf : files.findIdx? (pEq f) with
  | none =>
    have h := List.findIdx?_eq_none_iff.1 hf
    have h0 : cntIx files f files.length = 0 := by
      unfold cntIx
      rw [List.take_length, List.filter_eq_nil_iff.2 (fun s hs => by rw [h s hs]; exact Bool.false_ne_true)]
      rfl
    rw [if_neg (by omega)]
  | some i =>
    obtain ⟨hi, h1, h2⟩ := List.findIdx?_eq_some_iff_getElem.1 hf
    have hsp : cntIx files f files.length = 1 + ((files.drop (i + 1)).filter (pEq f)).length := by
      unfold cntIx
      rw [List.take_length]
      have e : files = files.take i ++ (files[i] :: files.drop (i + 1)) := by rw [← List.drop_eq_getElem_cons hi, List.take_append_drop]
      have hz : (files.take i).filter (pEq f) = [] := List.filter_eq_nil_iff.2 fun s hs => by
        obtain ⟨j, hj, rfl⟩ := List.mem_take_iff_getElem.1 hs
        exact h2 j (by omega)
      conv => lhs; rw [e]
      rw [List.filter_append, hz, List.nil_append, List.filter_cons_of_pos h1, List.length_cons]
      omega
    simp only
    cases ha : (files.drop (i + 1)).any (pEq f) with
    | true =>
      obtain ⟨s, hs, hp⟩ := List.any_eq_true.1 ha
      have : 0 < ((files.drop (i + 1)).filter (pEq f)).length := List.length_pos_of_mem (List.mem_filter.2 ⟨hs, hp⟩)
      rw [if_pos rfl, if_neg (by omega)]
    | false =>
      have hz : ((files.drop (i + 1)).filter (pEq f)).length = 0 := by
        rw [List.filter_eq_nil_iff.2 (fun s hs => List.any_eq_false.1 ha s hs)]
        rfl
      have hl : ∀ k, i < k → k ≤ files.length → lastIx files f k = i := by
        intro k
        induction k with
        | zero => intro h; omega
        | succ k ih =>
          intro hk1 hk2
          unfold lastIx
          rw [List.getD_eq_getElem?_getD, List.getElem?_eq_getElem (by omega), Option.getD_some]
          by_cases hki : k = i
          · subst hki
            rw [if_pos h1]
          · have hm : files[k] ∈ files.drop (i + 1) := List.mem_drop_iff_getElem.2 ⟨k - (i + 1), by omega, by congr 1; omega⟩
            rw [if_neg (List.any_eq_false.1 ha _ hm)]
            exact ih (by omega) (by omega)
      rw [hl files.length hi (Nat.le_refl _), if_neg Bool.false_ne_true]
      by_cases hd : ((files.getD i s0).f1.length : Int) = f.2.1
      · rw [if_pos hd, if_pos ⟨by omega, hd⟩]
      · rw [if_neg hd, if_neg (fun h => hd h.2)]
end Cr
end Go.Proofs.Ytjeeakhgjcbhaaa
set_option linter.unusedVariables false
set_option linter.unusedSimpArgs false
namespace Go.Proofs.Ytjeeakhgjcbhaaa
open Go.RowKit Go.Proofs.YtjeeakhgjcbhaaaW.PrintWords Go.Proofs.YtjeeakhgjcbhaaaW Go.Proofs.YtjeeakhgjcbhaaaW.PrintMore
namespace Cr
open Wd Vl Mt Sa PCreateSlices
set_option maxHeartbeats 4000000 in
set_option maxRecDepth 100000 in
theorem match1_any (s : Src) (scs : List Value) (f : FileD) (gf : Nat) (fcs : List Value) (w : World) (hS : KSrc.K w s scs) (hF : KFile.K w f fcs) (hb : w.heap[gf]? = some (.cells fcs.toArray 93)) :
    Calls Try.prog 88 #[.agg scs.toArray, .pointer (some ⟨gf, 0, none⟩)] w fun e w' => e = .returned (.bool (pEq f s)) ∧ Below w.heap.size w w' := by
  obtain ⟨A0, c0, A1, c1, rfl, l0, g0, l1, g1⟩ := k106_open hS
  obtain ⟨P, p, MM, q, e0, _, _, hP, _⟩ := file_open hF
  have HG0 := Aside0.mk g0
  have HP := Aside0.mk hP
  have hf0 : w.cell? ⟨gf, 0, none⟩ = some (.slice P f.1.length p) := (Go.Joins.cell_of_block hb 0).trans (by rw [List.getElem?_toArray, e0]; rfl)
  have hB := below_alloc (Below.refl w.heap.size w) (.cells #[.slice A0 s.f0.length c0, .slice A1 s.f1.length c1] 106)
  have hf1 := cell_stay hB hf0
  have HQ := Lib.hid (equalS_any A0 c0 s.f0 P p f.1 _ (Kd.C_below HG0.out hB) (Kd.C_below HP.out hB))
  have HB := Aside0.mk hB
  clear hS hF hb e0 g0 g1 hP hB hf0
  go_enter Try.func88, Try.ntmps88
  go_wp2_with fail
  go_at_call 89
  refine HQ.out.mono ?_
  rintro e w1 ⟨rfl, q1, rfl⟩
  go_wp2
  go_ret
  exact ⟨rfl, below_drewN HB.out _⟩
set_option maxHeartbeats 4000000 in
set_option maxRecDepth 100000 in
theorem seekS_any (A : Option Addr) (c : Nat) (files : List Src) (f : FileD) (gf : Nat) (fcs : List Value) (w : World) (hr : KSrc.C w A files.length files) (hlen : files.length * 48 ≤ 140737488351232) (hF : KFile.K w f fcs) (hb : w.heap[gf]? = some (.cells fcs.toArray 93)) :
    Calls Try.prog 90 #[.slice A files.length c, .func (.func 88) #[] #[.pointer (some ⟨gf, 0, none⟩)]] w fun e w' => e = .returned (.int .i64 (seekR files f)) ∧ Below w.heap.size w w' := by
  have HR := Aside0.mk hr
  have HF := Aside0.mk hF
  have HBX := Aside0.mk hb
  clear hr hF hb
  go_enter Try.func90, Try.ntmps90
  go_wp2
  go_loopw [9] (fun i wz => ∃ k : Nat, k ≤ files.length ∧ i = .int .i64 k ∧ Hid (∀ s ∈ files.take k, pEq f s = false) ∧ Aside0 (Below w.heap.size w wz)) (fun i _ => files.length - (intOf i).toNat)
  case atStart => exact ⟨0, by omega, rfl, Lib.hid (by simp), ⟨Below.refl _ _⟩⟩
  case round =>
    obtain ⟨k, hk, rfl, HN, HB⟩ := hrel
    by_cases hlt : k < files.length
    · obtain ⟨ad, scs, e0, hl2, hKs, hcs⟩ := Kd.C_get HR.out s0 (k : Int) (by omega) (by omega)
      subst e0
      rw [Int.toNat_natCast] at hKs hcs
      change ∀ j u, scs[j]? = some u → w.cell? (ad.add (k * 2 + j)) = some u at hcs
      have HAT := Lib.hid (seek_at (f := f) hlt HN.out)
      have HTK := Lib.hid (take_all (p := pEq f) hlt HN.out)
      generalize files.getD k s0 = s at *
      have HKS := Aside0.mk hKs
      have HY : Hid (∀ j u, scs[j]? = some u → wr.cell? ((ad.add (k * 2)).add j) = some u) := Lib.hid fun j u hj => by
        rw [Go.Deep.add_add]
        exact cell_stay HB.out (hcs j u hj)
      have hl2' : scs.length = 2 := hl2
      have HI := Lib.hid (show (Try.prog.info? 106).map (·.size) = some scs.length by rw [hl2']; kernel_rfl)
      have HI' := Lib.hid (show (Try.prog.info? 106).map (·.size) = some scs.toArray.size by rw [List.size_toArray, hl2']; kernel_rfl)
      have HON := Lib.hid (fun u hu => KSrc.K_one hKs u hu)
      have HSZ : Hid ((#[.slice none 0 0, .slice none 0 0] : Array Value).size = scs.toArray.size) := Lib.hid (show 2 = scs.length from hl2'.symm)
      clear hKs hcs hl2 hl2'
      go_upto_region 4 with (first | ((with_reducible refine Fl.wpList_load rfl 106 (.tmp 12) rfl (ad.add (k * 2)) ?lx (scs) _ ?lc Try.underlying106 rfl ?li ?_); (case lx => rfl); (case lc => exact HY.out); (case li => exact HI.out)) | ((with_reducible refine Fl.wpList_store_fresh rfl 106 (.tmp 6) (.tmp 13) rfl 106 _ (scs).toArray ?sx ?sy ?si ?so ?s1 ?_); (case sx => rfl); (case sy => rfl); (case si => exact HI'.out); (case so => exact HSZ.out); (case s1 => exact Fl.all_one HON.out)))
      replace HB := Aside0.mk (below_step HB.out (below_alloc (Below.refl _ _) (.cells scs.toArray 106)))
      go_wp2_with ((with_reducible refine Fl.wpList_load_fresh rfl 106 (.tmp 6) rfl 106 (scs).toArray ?fx _ Try.underlying106 rfl ?fi ?_); (case fx => rfl); (case fi => exact HI'.out))
      go_at_call 88
      refine (match1_any s scs f gf fcs _ (KSrc.K_below HB.out HKS.out) (KFile.K_below HB.out HF.out) (blk_below HBX.out HB.out)).mono ?_
      rintro e w2 ⟨rfl, hb2⟩
      replace HB := Aside0.mk (below_step HB.out hb2)
      clear hb2
      cases he : pEq f s with
      | true =>
        have E1 : Hid (seekR files f = k) := Lib.hid (by unfold seekR; rw [HAT.out he])
        go_wp2
        go_ret
        exact ⟨by rw [E1.out]; rfl, HB.out⟩
      | false =>
        have HN2 := Lib.hid (HTK.out he)
        go_wp2
        go_roundw
        case rel => exact ⟨k + 1, by omega, by go_num, HN2, HB⟩
        case measure => simp [intOf]; omega
    · have E1 : Hid (seekR files f = -1) := Lib.hid (by
        have h := HN.out
        rw [show k = files.length by omega, List.take_length] at h
        unfold seekR
        rw [seek_none h])
      go_wp2
      go_ret
      exact ⟨by rw [E1.out]; rfl, HB.out⟩
end Cr
end Go.Proofs.Ytjeeakhgjcbhaaa
set_option linter.unusedVariables false
set_option linter.unusedSimpArgs false
namespace Go.Proofs.Ytjeeakhgjcbhaaa
open Go.RowKit Go.Proofs.YtjeeakhgjcbhaaaW.PrintWords Go.Proofs.YtjeeakhgjcbhaaaW Go.Proofs.YtjeeakhgjcbhaaaW.PrintMore
namespace Cr
open Wd Vl Mt Sa PCreateSlices
theorem exec_slice {P : Program} {ρ : Operand → Value} {o : Oper} {w : World} {t : TypeId} {x lo : Operand} {A : Option Addr} {n c : Nat} {i : Int} {v : Value} (ho : o.op = .slice t x (some lo) none none) (hx : ρ x = .slice A n c) (hl : ρ lo = .int .i64 i) (hr : ∀ w, (Instr.slice t (.slice A n c) (some (.int .i64 i)) none none).run P w = .ok v w) (ht : P.underlying t = some (.slice (P.elem t))) : (execOp ρ o).run P w = .ok (.value v) w := by
  unfold execOp
  simp only [ho, hx, hl, Option.map_some, Option.map_none, Sem.run_bind, run_sliceAt_slice _ t _ _ _ _ ht, hr w, Sem.run_pure, Result.andThen_ok]
theorem seekR_ge (l : List Src) (f : FileD) : decide (seekR l f ≥ 0) = l.any (pEq f) := by
  unfold seekR
  cases hf : l.findIdx? (pEq f) with
  | none =>
    have h := List.findIdx?_eq_none_iff.1 hf
    rw [decide_eq_false (by decide : ¬ (-1 : Int) ≥ 0)]
    exact (List.any_eq_false.2 fun x hx => by rw [h x hx]; exact Bool.false_ne_true).symm
  | some i =>
    obtain ⟨hi, h1, _⟩ := List.findIdx?_eq_some_iff_getElem.1 hf
    rw [decide_eq_true (by show (0 : Int) ≤ (i : Int); omega)]
    exact (List.any_eq_true.2 ⟨_, List.getElem_mem hi, h1⟩).symm
/-- The data that are meant, as match answers them. -/
def mtD (files : List Src) (m : MetaD) : List (List Int) := match mt files m with | some is => dat files is | none => []
def KDt : Kd (List Int) := Kd.slice 5 (Kd.int .u8)
theorem infoDt : (Try.prog.info? 103).map (fun i => (i.zero, i.size, i.bytes)) = some (some (.slice none 0 0), 1, 24) := by kernel_rfl
set_option maxHeartbeats 8000000 in
set_option maxRecDepth 100000 in
theorem match_any (m : MetaD) (cs : List Value) (A : Option Addr) (c : Nat) (files : List Src) (w : World) (hK : KMeta.K w m cs) (hG : GMeta m) (hr : KSrc.C w A files.length files) (hc : files.length ≤ c) (hlen : files.length * 48 ≤ 140737488351232) :
    Calls Try.prog 69 #[.agg cs.toArray, .slice A files.length c] w fun e w' => ∃ A' c', e = .returned (.tuple #[.slice A' (mtD files m).length c', .bool (mt files m).isSome]) ∧ KDt.C w' A' (mtD files m).length (mtD files m) ∧ Below w.heap.size w w' := by
  have HX := Aside0.mk (Bx.first w hK)
  have HK := Aside0.mk hK
  obtain ⟨AF, cF, AL, cL, AI, cI, AT, cT, e0, hF, _⟩ := meta_open hK
  have q1 : m.2.2.1.length * 88 ≤ 140737488351232 := hG.2.1.1
  have HF := Aside0.mk hF
  have HR := Aside0.mk hr
  have HC2 : Hid (∀ (g : Nat) (W : World), Bx w m g cs W → W.cell? ⟨g, 2, none⟩ = some (.slice AF m.2.2.1.length cF)) := Lib.hid fun g W h => h.load 2 _ (by rw [e0]; rfl)
  clear hF hK hG e0 hr
  have hx2 := HC2.out _ _ HX.out
  by_cases hl : files.length = m.2.2.1.length
  · have b1 : ((files.length : Int) == (m.2.2.1.length : Int)) = true := by simp [hl]
    have b2 : ((files.length : Int) != (m.2.2.1.length : Int)) = false := by simp [hl]
    have b3 : (files.length == m.2.2.1.length) = true := by simp [hl]
    have EM : Hid (mt files m = mAll files m.2.2.1) := Lib.hid (by unfold mt; rw [if_pos hl])
    clear hl
    go_enter Try.func69, Try.ntmps69
    go_wp2
    go_loopw [6, 20] (fun v i wz => ∃ (k : Nat) (is : List Nat), k ≤ m.2.2.1.length ∧ i = .int .i64 k ∧ Hid (mAll files (m.2.2.1.take k) = some is) ∧ Aside0 ((Kd.fixed KDt w).R 103 wz w.heap.size (fun _ => True) v (dat files is)) ∧ Aside0 (Bx w m w.heap.size cs wz)) (fun v i _ => m.2.2.1.length - (intOf i).toNat)
    case atStart => exact ⟨0, [], by omega, rfl, Lib.hid rfl, ⟨Kd.R_nil _ _ _ _ _⟩, HX⟩
    case round =>
      clear HX hx2
      obtain ⟨k, is, hk, rfl, HM, HO, HX⟩ := hrel
      by_cases hlt : k < m.2.2.1.length
      · have HT : Hid (m.2.2.1.take (k + 1) = m.2.2.1.take k ++ [m.2.2.1.getD k f0]) := Lib.hid (by rw [List.take_succ_eq_append_getElem hlt, List.getD_eq_getElem?_getD, List.getElem?_eq_getElem hlt]; rfl)
        have HFL := Lib.hid (mAll_fail files m.2.2.1 k hlt)
        have HSN := Lib.hid (mAll_snoc files (m.2.2.1.take k) (m.2.2.1.getD k f0) is HM.out)
        rw [← HT.out] at HSN
        obtain ⟨fad, fcs, e0, hl35, hfk, hcs⟩ := at_file HF.out k hlt
        subst e0
        change KFile.K w (m.2.2.1.getD k f0) fcs at hfk
        generalize m.2.2.1.getD k f0 = f at *
        have HY : Hid (∀ j u, fcs[j]? = some u → wr.cell? ((fad.add (k * 35)).add j) = some u) := Lib.hid fun j u hj => by
          rw [Go.Deep.add_add]
          exact cell_stay HX.out.bel (hcs j u hj)
        have HKF := Aside0.mk hfk
        have HL35 := Lib.hid hl35
        have HSF := Lib.hid ((show zF.size = 35 from by kernel_rfl).trans (show 35 = fcs.toArray.size by rw [List.size_toArray]; exact hl35.symm))
        have HS1 := Lib.hid (show (Try.prog.info? 93).map (·.size) = some fcs.toArray.size by rw [List.size_toArray]; exact sizeF hl35)
        have HON := Lib.hid (KFile.K_one hfk)
        have HF1V := Lib.hid (f1_of hfk)
        have hmf : ∀ (fn : Fn) (first cap : Array Value) (w : World), (Instr.makeFunc fn first cap).run Try.prog w = .ok (.func fn first cap) w := fun _ _ _ _ => rfl
        clear hfk hcs hl35
        go_upto_region 7 with (first | ((with_reducible refine Fl.wpList_load rfl 93 (.tmp 22) rfl (fad.add (k * 35)) ?lx (fcs) _ ?lc Try.underlying93 rfl ?li ?_); (case lx => rfl); (case lc => exact HY.out); (case li => exact (sizeF HL35.out))) | ((with_reducible refine Fl.wpList_store_fresh rfl 93 (.tmp 8) (.tmp 23) rfl 93 _ (fcs).toArray ?sx ?sy ?si ?so ?s1 ?_); (case sx => rfl); (case sy => rfl); (case si => exact HS1.out); (case so => exact HSF.out); (case s1 => exact Fl.all_one HON.out)))
        have hgf := heap_alloc_new wr (.cells fcs.toArray 93)
        have hba := below_alloc (Below.refl wr.heap.size wr) (.cells fcs.toArray 93)
        replace HX := Aside0.mk (HX.out.below hba)
        replace HO := Aside0.mk (Kd.R_below HO.out hba)
        clear hba HY HSF HS1 HON
        generalize wr.alloc (.cells fcs.toArray 93) = wf at *
        generalize wr.heap.size = gf at *
        have HFF := Aside0.mk hgf
        clear hgf
        go_wp2_with fail
        go_at_call 90
        refine (seekS_any A c files f gf fcs wf (Kd.C_below HR.out HX.out.bel) hlen (KFile.K_below HX.out.bel HKF.out) HFF.out).mono ?_
        rintro e wr ⟨rfl, hb1⟩
        replace HX := Aside0.mk (HX.out.below hb1)
        replace HO := Aside0.mk (Kd.R_below HO.out hb1)
        replace HFF := Aside0.mk (blk_below HFF.out hb1)
        clear hb1 hmf
        have EX : Hid (seekR files f = match files.findIdx? (pEq f) with | some i => (i : Int) | none => -1) := Lib.hid rfl
        have EA : Hid (matchAt files f = match files.findIdx? (pEq f) with | none => none | some i => if (files.drop (i + 1)).any (pEq f) then none else if ((files.getD i s0).f1.length : Int) = f.2.1 then some i else none) := Lib.hid rfl
        cases hfi : files.findIdx? (pEq f) with
        | none =>
          rw [hfi] at EX EA
          replace EX : Hid (seekR files f = -1) := EX
          replace EA : Hid (matchAt files f = none) := EA
          rw [EX.out]
          have EN : Hid (mtD files m = []) := Lib.hid (by unfold mtD; rw [EM.out, HFL.out EA.out])
          have EB : Hid ((mt files m).isSome = false) := Lib.hid (by rw [EM.out, HFL.out EA.out]; rfl)
          clear hfi EX EA HFL HSN
          go_upto_region 9 with fail
          refine PrintLast.start_ (n := 22) (S := fun w' => Below wr.heap.size wr w') (ds := []) #[false, false, false, false, false, false, false, false, false, false, false, false, false, false, false, false, false, false, false, false, false, false] (by kernel_rfl) rfl rfl (below_drew1 (Below.refl _ _)) (fun hHeld => ?_)
          generalize wr.drew = W0 at *
          refine PrintLast.pure_ (i := 0) (N := some 28) (v := ?_) (a' := ?_) #[true, false, false, false, false, false, false, false, false, false, false, false, false, false, false, false, false, false, false, false, false, false] rfl rfl (by kernel_rfl) (fun _ _ _ h => h) (Or.inl ⟨by rfl, ?_⟩) ?_ ?_
          rotate_left
          · intro w'
            go_simp
            with_reducible rfl
          rotate_left
          · simp only [Act.put, List.setIfInBounds_toArray, List.set_cons_zero, List.set_cons_succ]
            rfl
          refine PrintLast.pure_ (i := 1) (N := some 29) (v := ?_) (a' := ?_) #[true, true, false, false, false, false, false, false, false, false, false, false, false, false, false, false, false, false, false, false, false, false] rfl rfl (by kernel_rfl) (fun _ _ _ h => h) (Or.inl ⟨by rfl, ?_⟩) ?_ ?_
          rotate_left
          · intro w'
            go_simp
            with_reducible rfl
          rotate_left
          · simp only [Act.put, List.setIfInBounds_toArray, List.set_cons_zero, List.set_cons_succ]
            rfl
          refine PrintLast.pure_ (i := 2) (N := some 30) (v := ?_) (a' := ?_) #[true, true, true, false, false, false, false, false, false, false, false, false, false, false, false, false, false, false, false, false, false, false] rfl rfl (by kernel_rfl) (fun _ _ _ h => h) (Or.inl ⟨by rfl, ?_⟩) ?_ ?_
          rotate_left
          · intro w'
            go_simp
            with_reducible rfl
          rotate_left
          · simp only [Act.put, List.setIfInBounds_toArray, List.set_cons_zero, List.set_cons_succ]
            rfl
          refine PrintLast.pure_ (i := 3) (N := some 31) (v := undef) (a' := ?_) #[true, true, true, true, false, false, false, false, false, false, false, false, false, false, false, false, false, false, false, false, false, false] rfl rfl (by kernel_rfl) (fun _ _ _ h => h) (Or.inr ⟨by rfl, rfl⟩) ?_ ?_
          rotate_left
          · simp only [Act.put, List.setIfInBounds_toArray, List.set_cons_zero, List.set_cons_succ]
            rfl
          refine PrintLast.pure_ (i := 4) (N := some 32) (v := undef) (a' := ?_) #[true, true, true, true, true, false, false, false, false, false, false, false, false, false, false, false, false, false, false, false, false, false] rfl rfl (by kernel_rfl) (fun _ _ _ h => h) (Or.inr ⟨by rfl, rfl⟩) ?_ ?_
          rotate_left
          · simp only [Act.put, List.setIfInBounds_toArray, List.set_cons_zero, List.set_cons_succ]
            rfl
          refine PrintLast.pure_ (i := 5) (N := some 33) (v := undef) (a' := ?_) #[true, true, true, true, true, true, false, false, false, false, false, false, false, false, false, false, false, false, false, false, false, false] rfl rfl (by kernel_rfl) (fun _ _ _ h => h) (Or.inr ⟨by rfl, rfl⟩) ?_ ?_
          rotate_left
          · simp only [Act.put, List.setIfInBounds_toArray, List.set_cons_zero, List.set_cons_succ]
            rfl
          refine PrintLast.pure_ (i := 6) (N := some 34) (v := undef) (a' := ?_) #[true, true, true, true, true, true, true, false, false, false, false, false, false, false, false, false, false, false, false, false, false, false] rfl rfl (by kernel_rfl) (fun _ _ _ h => h) (Or.inr ⟨by rfl, rfl⟩) ?_ ?_
          rotate_left
          · simp only [Act.put, List.setIfInBounds_toArray, List.set_cons_zero, List.set_cons_succ]
            rfl
          refine PrintLast.pure_ (i := 7) (N := some 35) (v := undef) (a' := ?_) #[true, true, true, true, true, true, true, true, false, false, false, false, false, false, false, false, false, false, false, false, false, false] rfl rfl (by kernel_rfl) (fun _ _ _ h => h) (Or.inr ⟨by rfl, rfl⟩) ?_ ?_
          rotate_left
          · simp only [Act.put, List.setIfInBounds_toArray, List.set_cons_zero, List.set_cons_succ]
            rfl
          refine PrintLast.pure_ (i := 8) (N := some 36) (v := undef) (a' := ?_) #[true, true, true, true, true, true, true, true, true, false, false, false, false, false, false, false, false, false, false, false, false, false] rfl rfl (by kernel_rfl) (fun _ _ _ h => h) (Or.inr ⟨by rfl, rfl⟩) ?_ ?_
          rotate_left
          · simp only [Act.put, List.setIfInBounds_toArray, List.set_cons_zero, List.set_cons_succ]
            rfl
          refine PrintLast.pure_ (i := 9) (N := some 37) (v := undef) (a' := ?_) #[true, true, true, true, true, true, true, true, true, true, false, false, false, false, false, false, false, false, false, false, false, false] rfl rfl (by kernel_rfl) (fun _ _ _ h => h) (Or.inr ⟨by rfl, rfl⟩) ?_ ?_
          rotate_left
          · simp only [Act.put, List.setIfInBounds_toArray, List.set_cons_zero, List.set_cons_succ]
            rfl
          refine PrintLast.pure_ (i := 10) (N := some 38) (v := ?_) (a' := ?_) #[true, true, true, true, true, true, true, true, true, true, true, false, false, false, false, false, false, false, false, false, false, false] rfl rfl (by kernel_rfl) (fun _ _ _ h => h) (Or.inl ⟨by rfl, ?_⟩) ?_ ?_
          rotate_left
          · intro w'
            go_simp
            with_reducible rfl
          rotate_left
          · simp only [Act.put, List.setIfInBounds_toArray, List.set_cons_zero, List.set_cons_succ]
            rfl
          refine PrintLast.pure_ (i := 11) (N := some 39) (v := ?_) (a' := ?_) #[true, true, true, true, true, true, true, true, true, true, true, true, false, false, false, false, false, false, false, false, false, false] rfl rfl (by kernel_rfl) (fun _ _ _ h => h) (Or.inl ⟨by rfl, ?_⟩) ?_ ?_
          rotate_left
          · intro w'
            go_simp
            with_reducible rfl
          rotate_left
          · simp only [Act.put, List.setIfInBounds_toArray, List.set_cons_zero, List.set_cons_succ]
            rfl
          refine PrintLast.pure_ (i := 12) (N := some 40) (v := undef) (a' := ?_) #[true, true, true, true, true, true, true, true, true, true, true, true, true, false, false, false, false, false, false, false, false, false] rfl rfl (by kernel_rfl) (fun _ _ _ h => h) (Or.inr ⟨by rfl, rfl⟩) ?_ ?_
          rotate_left
          · simp only [Act.put, List.setIfInBounds_toArray, List.set_cons_zero, List.set_cons_succ]
            rfl
          refine PrintLast.pure_ (i := 13) (N := some 41) (v := undef) (a' := ?_) #[true, true, true, true, true, true, true, true, true, true, true, true, true, true, false, false, false, false, false, false, false, false] rfl rfl (by kernel_rfl) (fun _ _ _ h => h) (Or.inr ⟨by rfl, rfl⟩) ?_ ?_
          rotate_left
          · simp only [Act.put, List.setIfInBounds_toArray, List.set_cons_zero, List.set_cons_succ]
            rfl
          refine PrintLast.pure_ (i := 14) (N := some 42) (v := undef) (a' := ?_) #[true, true, true, true, true, true, true, true, true, true, true, true, true, true, true, false, false, false, false, false, false, false] rfl rfl (by kernel_rfl) (fun _ _ _ h => h) (Or.inr ⟨by rfl, rfl⟩) ?_ ?_
          rotate_left
          · simp only [Act.put, List.setIfInBounds_toArray, List.set_cons_zero, List.set_cons_succ]
            rfl
          refine PrintLast.pure_ (i := 15) (N := some 43) (v := undef) (a' := ?_) #[true, true, true, true, true, true, true, true, true, true, true, true, true, true, true, true, false, false, false, false, false, false] rfl rfl (by kernel_rfl) (fun _ _ _ h => h) (Or.inr ⟨by rfl, rfl⟩) ?_ ?_
          rotate_left
          · simp only [Act.put, List.setIfInBounds_toArray, List.set_cons_zero, List.set_cons_succ]
            rfl
          refine PrintLast.pure_ (i := 16) (N := some 44) (v := undef) (a' := ?_) #[true, true, true, true, true, true, true, true, true, true, true, true, true, true, true, true, true, false, false, false, false, false] rfl rfl (by kernel_rfl) (fun _ _ _ h => h) (Or.inr ⟨by rfl, rfl⟩) ?_ ?_
          rotate_left
          · simp only [Act.put, List.setIfInBounds_toArray, List.set_cons_zero, List.set_cons_succ]
            rfl
          refine PrintLast.pure_ (i := 17) (N := some 45) (v := undef) (a' := ?_) #[true, true, true, true, true, true, true, true, true, true, true, true, true, true, true, true, true, true, false, false, false, false] rfl rfl (by kernel_rfl) (fun _ _ _ h => h) (Or.inr ⟨by rfl, rfl⟩) ?_ ?_
          rotate_left
          · simp only [Act.put, List.setIfInBounds_toArray, List.set_cons_zero, List.set_cons_succ]
            rfl
          refine PrintLast.pure_ (i := 18) (N := some 46) (v := undef) (a' := ?_) #[true, true, true, true, true, true, true, true, true, true, true, true, true, true, true, true, true, true, true, false, false, false] rfl rfl (by kernel_rfl) (fun _ _ _ h => h) (Or.inr ⟨by rfl, rfl⟩) ?_ ?_
          rotate_left
          · simp only [Act.put, List.setIfInBounds_toArray, List.set_cons_zero, List.set_cons_succ]
            rfl
          refine PrintLast.pure_ (i := 19) (N := some 47) (v := undef) (a' := ?_) #[true, true, true, true, true, true, true, true, true, true, true, true, true, true, true, true, true, true, true, true, false, false] rfl rfl (by kernel_rfl) (fun _ _ _ h => h) (Or.inr ⟨by rfl, rfl⟩) ?_ ?_
          rotate_left
          · simp only [Act.put, List.setIfInBounds_toArray, List.set_cons_zero, List.set_cons_succ]
            rfl
          refine PrintLast.pure_ (i := 20) (N := some 48) (v := undef) (a' := ?_) #[true, true, true, true, true, true, true, true, true, true, true, true, true, true, true, true, true, true, true, true, true, false] rfl rfl (by kernel_rfl) (fun _ _ _ h => h) (Or.inr ⟨by rfl, rfl⟩) ?_ ?_
          rotate_left
          · simp only [Act.put, List.setIfInBounds_toArray, List.set_cons_zero, List.set_cons_succ]
            rfl
          refine PrintLast.pure_ (i := 21) (N := some 49) (v := ?_) (a' := ?_) #[true, true, true, true, true, true, true, true, true, true, true, true, true, true, true, true, true, true, true, true, true, true] rfl rfl (by kernel_rfl) (fun _ _ _ h => h) (Or.inl ⟨by rfl, ?_⟩) ?_ ?_
          rotate_left
          · intro w'
            go_simp
            with_reducible rfl
          rotate_left
          · simp only [Act.put, List.setIfInBounds_toArray, List.set_cons_zero, List.set_cons_succ]
            rfl
          refine PrintLast.done_ (by kernel_rfl) ?_
          have HX2 := Aside0.mk (HX.out.below hHeld)
          go_wp2
          go_ret2
          exact ⟨none, 0, by rw [EN.out, EB.out]; rfl, by rw [EN.out]; exact Kd.C_nil _ _, HX2.out.bel⟩
        | some ix =>
          rw [hfi] at EX EA
          replace EX : Hid (seekR files f = (ix : Int)) := EX
          replace EA : Hid (matchAt files f = if (files.drop (ix + 1)).any (pEq f) then none else if ((files.getD ix s0).f1.length : Int) = f.2.1 then some ix else none) := EA
          obtain ⟨hix, _⟩ := List.findIdx?_eq_some_iff_getElem.1 hfi
          obtain ⟨ad, scs, ea, hl2, hKs, hscs⟩ := Kd.C_get HR.out s0 (ix : Int) (by omega) (by omega)
          subst ea
          rw [Int.toNat_natCast] at hKs hscs
          change ∀ j u, scs[j]? = some u → w.cell? (ad.add (ix * 2 + j)) = some u at hscs
          rw [EX.out]
          have d0 : decide ((ix : Int) < 0) = false := decide_eq_false (by omega)
          have d1 : (ix : Int) < (files.length : Int) := by omega
          have HSL : Hid (∀ w, (Instr.slice 61 (.slice (some ad) files.length c) (some (.int .i64 (ix + 1))) none none).run Try.prog w = .ok (.slice (if c = ix + 1 then some ad else (some ad).map (·.add ((ix + 1) * 2))) (files.length - (ix + 1)) (c - (ix + 1))) w) := Lib.hid fun W => by
            obtain ⟨i0, hi0, hz⟩ := Option.map_eq_some_iff.1 (show (Try.prog.info? 106).map (·.size) = some 2 by kernel_rfl)
            have := cut_from (P := Try.prog) 61 106 .i64 Try.underlying61 hi0 2 hz (some ad) files.length c ((ix : Int) + 1) (by omega) (by omega) W
            rw [show ((ix : Int) + 1).toNat = ix + 1 by omega] at this
            exact this
          have hwx : IntKind.i64.wrap ((ix : Int) + 1) = (ix : Int) + 1 := (PrintLast.i64_w _).trans (w64 (by omega) (by omega))
          have hdl : (files.drop (ix + 1)).length = files.length - (ix + 1) := List.length_drop
          have HSK : Hid (∀ W, Below wr.heap.size wr W → Calls Try.prog 90 #[.slice (if c = ix + 1 then some ad else (some ad).map (·.add ((ix + 1) * 2))) (files.length - (ix + 1)) (c - (ix + 1)), .func (.func 88) #[] #[.pointer (some ⟨gf, 0, none⟩)]] W fun e w' => e = .returned (.int .i64 (seekR (files.drop (ix + 1)) f)) ∧ Below W.heap.size W w') := Lib.hid fun W hb => by
            have hC : KSrc.C W (if c = ix + 1 then some ad else (some ad).map (·.add ((ix + 1) * KSrc.sz))) (files.drop (ix + 1)).length (files.drop (ix + 1)) := Kd.C_drop (Kd.C_below HR.out (below_step HX.out.bel hb)) (by omega) hc
            have := seekS_any _ (c - (ix + 1)) (files.drop (ix + 1)) f gf fcs W hC (by omega) (KFile.K_below (below_step HX.out.bel hb) HKF.out) (blk_below HFF.out hb)
            rw [hdl] at this
            exact this
          generalize (if c = ix + 1 then some ad else (some ad).map (·.add ((ix + 1) * 2))) = A2 at *
          have hs : files.getD ix s0 ∈ files := nth_mem s0 files ix hix
          have HGE := Lib.hid (seekR_ge (files.drop (ix + 1)) f)
          have HDS : Hid (dat files (is ++ [ix]) = dat files is ++ [(files.getD ix s0).f1]) := Lib.hid (by unfold dat; rw [List.map_append]; rfl)
          have HLI : Hid (is.length = k) := Lib.hid (by have := mAll_len files _ _ HM.out; rw [List.length_take] at this; omega)
          obtain ⟨A0, c0, A1, c1, rfl, l0, g0, l1, g1⟩ := k106_open hKs
          have hd1 : wr.cell? ⟨(ad.add (ix * 2)).block, (ad.add (ix * 2)).off + 1, none⟩ = some (.slice A1 (files.getD ix s0).f1.length c1) := cell_stay HX.out.bel (Fl.fcell 1 (by omega) (hscs 1 _ rfl))
          have HMP : Hid (KDt.K w (files.getD ix s0).f1 [.slice A1 (files.getD ix s0).f1.length c1]) := Lib.hid ⟨A1, c1, rfl, l1, g1⟩
          have HMX : Hid ((files.getD ix s0).f1.length ≤ 9223372036854775807) := Lib.hid g1.2.1
          have hf1 : wr.cell? ⟨gf, 1, none⟩ = some (.int .i64 f.2.1) := (Go.Joins.cell_of_block HFF.out 1).trans (by rw [List.getElem?_toArray]; exact HF1V.out)
          clear hs hfi hKs hscs hl2 l0 g0 l1 g1 hdl
          have hix' : (ix : Int) < (files.length : Int) := by omega
          generalize files.getD ix s0 = s at *
          generalize seekR (files.drop (ix + 1)) f = r at *
          cases hany : (files.drop (ix + 1)).any (pEq f) with
          | true =>
            rw [hany] at HGE EA
            have dr : decide (r ≥ 0) = true := HGE.out
            have EA' : Hid (matchAt files f = none) := Lib.hid (EA.out.trans (if_pos rfl))
            have EN : Hid (mtD files m = []) := Lib.hid (by unfold mtD; rw [EM.out, HFL.out EA'.out])
            have EB : Hid ((mt files m).isSome = false) := Lib.hid (by rw [EM.out, HFL.out EA'.out]; rfl)
            clear hany EX EA HFL HSN HGE
            go_upto_region 9 with fail
            refine PrintLast.start_ (n := 22) (S := fun w' => Below wr.heap.size wr w') (ds := []) #[false, false, false, false, false, false, false, false, false, false, false, false, false, false, false, false, false, false, false, false, false, false] (by kernel_rfl) rfl rfl (below_drew1 (Below.refl _ _)) (fun hHeld => ?_)
            generalize wr.drew = W0 at *
            refine PrintLast.pure_ (i := 0) (N := some 28) (v := ?_) (a' := ?_) #[true, false, false, false, false, false, false, false, false, false, false, false, false, false, false, false, false, false, false, false, false, false] rfl rfl (by kernel_rfl) (fun _ _ _ h => h) (Or.inl ⟨by rfl, ?_⟩) ?_ ?_
            rotate_left
            · intro w'
              go_simp
              with_reducible rfl
            rotate_left
            · simp only [Act.put, List.setIfInBounds_toArray, List.set_cons_zero, List.set_cons_succ]
              rfl
            refine PrintLast.pure_ (i := 1) (N := some 29) (v := ?_) (a' := ?_) #[true, true, false, false, false, false, false, false, false, false, false, false, false, false, false, false, false, false, false, false, false, false] rfl rfl (by kernel_rfl) (fun _ _ _ h => h) (Or.inl ⟨by rfl, ?_⟩) ?_ ?_
            rotate_left
            · intro w'
              go_simp
              with_reducible rfl
            rotate_left
            · simp only [Act.put, List.setIfInBounds_toArray, List.set_cons_zero, List.set_cons_succ]
              rfl
            refine PrintLast.pure_ (i := 2) (N := some 30) (v := ?_) (a' := ?_) #[true, true, true, false, false, false, false, false, false, false, false, false, false, false, false, false, false, false, false, false, false, false] rfl rfl (by kernel_rfl) (fun _ _ _ h => h) (Or.inl ⟨by rfl, ?_⟩) ?_ ?_
            rotate_left
            · intro w'
              go_simp
              with_reducible rfl
            rotate_left
            · simp only [Act.put, List.setIfInBounds_toArray, List.set_cons_zero, List.set_cons_succ]
              rfl
            refine PrintLast.pure_ (i := 3) (N := some 31) (v := ?_) (a' := ?_) #[true, true, true, true, false, false, false, false, false, false, false, false, false, false, false, false, false, false, false, false, false, false] rfl rfl (by kernel_rfl) (fun _ _ _ h => h) (Or.inl ⟨by rfl, ?_⟩) ?_ ?_
            rotate_left
            · intro w'
              go_simp
              with_reducible rfl
            rotate_left
            · simp only [Act.put, List.setIfInBounds_toArray, List.set_cons_zero, List.set_cons_succ]
              rfl
            refine PrintLast.pure_ (i := 4) (N := some 32) (v := ?_) (a' := ?_) #[true, true, true, true, true, false, false, false, false, false, false, false, false, false, false, false, false, false, false, false, false, false] rfl rfl (by kernel_rfl) (fun _ _ _ h => h) (Or.inl ⟨by rfl, ?_⟩) ?_ ?_
            rotate_left
            · intro w'
              go_simp
              with_reducible rfl
            rotate_left
            · simp only [Act.put, List.setIfInBounds_toArray, List.set_cons_zero, List.set_cons_succ]
              rfl
            refine PrintLast.pure_ (i := 5) (N := some 33) (v := ?_) (a' := ?_) #[true, true, true, true, true, true, false, false, false, false, false, false, false, false, false, false, false, false, false, false, false, false] rfl rfl (by kernel_rfl) (fun _ _ _ h => h) (Or.inl ⟨by rfl, ?_⟩) ?_ ?_
            rotate_left
            · intro w'
              go_simp
              with_reducible rfl
            rotate_left
            · simp only [Act.put, List.setIfInBounds_toArray, List.set_cons_zero, List.set_cons_succ]
              rfl
            refine PrintLast.pure_ (i := 6) (N := some 34) (v := .slice A2 (files.length - (ix + 1)) (c - (ix + 1))) (a' := ?_) #[true, true, true, true, true, true, true, false, false, false, false, false, false, false, false, false, false, false, false, false, false, false] rfl rfl (by kernel_rfl) (fun _ _ _ h => h) (Or.inl ⟨by rfl, ?_⟩) ?_ ?_
            skip
            · intro w'
              exact exec_slice (by rfl) (by rfl) (by rfl) HSL.out (by kernel_rfl)
            rotate_left
            · simp only [Act.put, List.setIfInBounds_toArray, List.set_cons_zero, List.set_cons_succ]
              rfl
            refine PrintLast.pure_ (i := 7) (N := some 35) (v := ?_) (a' := ?_) #[true, true, true, true, true, true, true, true, false, false, false, false, false, false, false, false, false, false, false, false, false, false] rfl rfl (by kernel_rfl) (fun _ _ _ h => h) (Or.inl ⟨by rfl, ?_⟩) ?_ ?_
            rotate_left
            · intro w'
              go_simp
              with_reducible rfl
            rotate_left
            · simp only [Act.put, List.setIfInBounds_toArray, List.set_cons_zero, List.set_cons_succ]
              rfl
            refine PrintLast.one_ (i := 8) (N := some 36) #[true, true, true, true, true, true, true, true, true, false, false, false, false, false, false, false, false, false, false, false, false, false] rfl rfl (by kernel_rfl) (by decide) (fun K hK => ?_)
            refine PrintLast.goes_ Try.func90 (by kernel_rfl) rfl #[.slice A2 (files.length - (ix + 1)) (c - (ix + 1)), .func (.func 88) #[] #[.pointer (some ⟨gf, 0, none⟩)]] (by rfl) rfl rfl (by simp only [List.map_toArray, List.map_cons, List.map_nil]; rfl) ?_
            refine (HSK.out _ hHeld).mono ?_
            rintro e W1 ⟨rfl, hst⟩
            have hst1 := below_step hHeld hst
            refine ⟨_, rfl, ?_⟩
            refine hK.out _ _ hst1 (fun hHeld => ?_)
            clear hK K
            refine PrintLast.norm_ (a' := ?_) ?_ ?_
            rotate_left
            · show Act.put _ (some 36) _ = _
              simp only [Act.put, List.setIfInBounds_toArray, List.set_cons_zero, List.set_cons_succ]
              rfl
            clear hst
            refine PrintLast.pure_ (i := 9) (N := some 37) (v := ?_) (a' := ?_) #[true, true, true, true, true, true, true, true, true, true, false, false, false, false, false, false, false, false, false, false, false, false] rfl rfl (by kernel_rfl) (fun _ _ _ h => h) (Or.inl ⟨by rfl, ?_⟩) ?_ ?_
            rotate_left
            · intro w'
              go_simp
              with_reducible rfl
            rotate_left
            · simp only [Act.put, List.setIfInBounds_toArray, List.set_cons_zero, List.set_cons_succ]
              rfl
            refine PrintLast.pure_ (i := 10) (N := some 38) (v := ?_) (a' := ?_) #[true, true, true, true, true, true, true, true, true, true, true, false, false, false, false, false, false, false, false, false, false, false] rfl rfl (by kernel_rfl) (fun _ _ _ h => h) (Or.inl ⟨by rfl, ?_⟩) ?_ ?_
            rotate_left
            · intro w'
              go_simp
              with_reducible rfl
            rotate_left
            · simp only [Act.put, List.setIfInBounds_toArray, List.set_cons_zero, List.set_cons_succ]
              rfl
            refine PrintLast.pure_ (i := 11) (N := some 39) (v := ?_) (a' := ?_) #[true, true, true, true, true, true, true, true, true, true, true, true, false, false, false, false, false, false, false, false, false, false] rfl rfl (by kernel_rfl) (fun _ _ _ h => h) (Or.inl ⟨by rfl, ?_⟩) ?_ ?_
            rotate_left
            · intro w'
              go_simp
              with_reducible rfl
            rotate_left
            · simp only [Act.put, List.setIfInBounds_toArray, List.set_cons_zero, List.set_cons_succ]
              rfl
            refine PrintLast.pure_ (i := 12) (N := some 40) (v := undef) (a' := ?_) #[true, true, true, true, true, true, true, true, true, true, true, true, true, false, false, false, false, false, false, false, false, false] rfl rfl (by kernel_rfl) (fun _ _ _ h => h) (Or.inr ⟨by rfl, rfl⟩) ?_ ?_
            rotate_left
            · simp only [Act.put, List.setIfInBounds_toArray, List.set_cons_zero, List.set_cons_succ]
              rfl
            refine PrintLast.pure_ (i := 13) (N := some 41) (v := undef) (a' := ?_) #[true, true, true, true, true, true, true, true, true, true, true, true, true, true, false, false, false, false, false, false, false, false] rfl rfl (by kernel_rfl) (fun _ _ _ h => h) (Or.inr ⟨by rfl, rfl⟩) ?_ ?_
            rotate_left
            · simp only [Act.put, List.setIfInBounds_toArray, List.set_cons_zero, List.set_cons_succ]
              rfl
            refine PrintLast.pure_ (i := 14) (N := some 42) (v := undef) (a' := ?_) #[true, true, true, true, true, true, true, true, true, true, true, true, true, true, true, false, false, false, false, false, false, false] rfl rfl (by kernel_rfl) (fun _ _ _ h => h) (Or.inr ⟨by rfl, rfl⟩) ?_ ?_
            rotate_left
            · simp only [Act.put, List.setIfInBounds_toArray, List.set_cons_zero, List.set_cons_succ]
              rfl
            refine PrintLast.pure_ (i := 15) (N := some 43) (v := undef) (a' := ?_) #[true, true, true, true, true, true, true, true, true, true, true, true, true, true, true, true, false, false, false, false, false, false] rfl rfl (by kernel_rfl) (fun _ _ _ h => h) (Or.inr ⟨by rfl, rfl⟩) ?_ ?_
            rotate_left
            · simp only [Act.put, List.setIfInBounds_toArray, List.set_cons_zero, List.set_cons_succ]
              rfl
            refine PrintLast.pure_ (i := 16) (N := some 44) (v := undef) (a' := ?_) #[true, true, true, true, true, true, true, true, true, true, true, true, true, true, true, true, true, false, false, false, false, false] rfl rfl (by kernel_rfl) (fun _ _ _ h => h) (Or.inr ⟨by rfl, rfl⟩) ?_ ?_
            rotate_left
            · simp only [Act.put, List.setIfInBounds_toArray, List.set_cons_zero, List.set_cons_succ]
              rfl
            refine PrintLast.pure_ (i := 17) (N := some 45) (v := undef) (a' := ?_) #[true, true, true, true, true, true, true, true, true, true, true, true, true, true, true, true, true, true, false, false, false, false] rfl rfl (by kernel_rfl) (fun _ _ _ h => h) (Or.inr ⟨by rfl, rfl⟩) ?_ ?_
            rotate_left
            · simp only [Act.put, List.setIfInBounds_toArray, List.set_cons_zero, List.set_cons_succ]
              rfl
            refine PrintLast.pure_ (i := 18) (N := some 46) (v := undef) (a' := ?_) #[true, true, true, true, true, true, true, true, true, true, true, true, true, true, true, true, true, true, true, false, false, false] rfl rfl (by kernel_rfl) (fun _ _ _ h => h) (Or.inr ⟨by rfl, rfl⟩) ?_ ?_
            rotate_left
            · simp only [Act.put, List.setIfInBounds_toArray, List.set_cons_zero, List.set_cons_succ]
              rfl
            refine PrintLast.pure_ (i := 19) (N := some 47) (v := undef) (a' := ?_) #[true, true, true, true, true, true, true, true, true, true, true, true, true, true, true, true, true, true, true, true, false, false] rfl rfl (by kernel_rfl) (fun _ _ _ h => h) (Or.inr ⟨by rfl, rfl⟩) ?_ ?_
            rotate_left
            · simp only [Act.put, List.setIfInBounds_toArray, List.set_cons_zero, List.set_cons_succ]
              rfl
            refine PrintLast.pure_ (i := 20) (N := some 48) (v := undef) (a' := ?_) #[true, true, true, true, true, true, true, true, true, true, true, true, true, true, true, true, true, true, true, true, true, false] rfl rfl (by kernel_rfl) (fun _ _ _ h => h) (Or.inr ⟨by rfl, rfl⟩) ?_ ?_
            rotate_left
            · simp only [Act.put, List.setIfInBounds_toArray, List.set_cons_zero, List.set_cons_succ]
              rfl
            refine PrintLast.pure_ (i := 21) (N := some 49) (v := ?_) (a' := ?_) #[true, true, true, true, true, true, true, true, true, true, true, true, true, true, true, true, true, true, true, true, true, true] rfl rfl (by kernel_rfl) (fun _ _ _ h => h) (Or.inl ⟨by rfl, ?_⟩) ?_ ?_
            rotate_left
            · intro w'
              go_simp
              with_reducible rfl
            rotate_left
            · simp only [Act.put, List.setIfInBounds_toArray, List.set_cons_zero, List.set_cons_succ]
              rfl
            refine PrintLast.done_ (by kernel_rfl) ?_
            have HX2 := Aside0.mk (HX.out.below hHeld)
            go_wp2
            go_ret2
            exact ⟨none, 0, by rw [EN.out, EB.out]; rfl, by rw [EN.out]; exact Kd.C_nil _ _, HX2.out.bel⟩
          | false =>
            rw [hany] at HGE EA
            have dr : decide (r ≥ 0) = false := HGE.out
            have EA' : Hid (matchAt files f = if (s.f1.length : Int) = f.2.1 then some ix else none) := Lib.hid (EA.out.trans (if_neg Bool.false_ne_true))
            clear hany EX EA HGE
            by_cases hd : (s.f1.length : Int) = f.2.1
            · have dd : ((s.f1.length : Int) == f.2.1) = true := beq_iff_eq.2 hd
              have dd2 : ((s.f1.length : Int) != f.2.1) = false := by simp [hd]
              have EA2 : Hid (matchAt files f = some ix) := Lib.hid (EA'.out.trans (if_pos hd))
              have HM2 : Hid (mAll files (m.2.2.1.take (k + 1)) = some (is ++ [ix])) := Lib.hid (by rw [HSN.out, EA2.out]; rfl)
              clear EA' HSN HFL hd EA2
              go_upto_region 9 with fail
              refine PrintLast.start_ (n := 22) (S := fun w' => Below wr.heap.size wr w') (ds := []) #[false, false, false, false, false, false, false, false, false, false, false, false, false, false, false, false, false, false, false, false, false, false] (by kernel_rfl) rfl rfl (below_drew1 (Below.refl _ _)) (fun hHeld => ?_)
              generalize wr.drew = W0 at *
              refine PrintLast.pure_ (i := 0) (N := some 28) (v := ?_) (a' := ?_) #[true, false, false, false, false, false, false, false, false, false, false, false, false, false, false, false, false, false, false, false, false, false] rfl rfl (by kernel_rfl) (fun _ _ _ h => h) (Or.inl ⟨by rfl, ?_⟩) ?_ ?_
              rotate_left
              · intro w'
                go_simp
                with_reducible rfl
              rotate_left
              · simp only [Act.put, List.setIfInBounds_toArray, List.set_cons_zero, List.set_cons_succ]
                rfl
              refine PrintLast.pure_ (i := 1) (N := some 29) (v := ?_) (a' := ?_) #[true, true, false, false, false, false, false, false, false, false, false, false, false, false, false, false, false, false, false, false, false, false] rfl rfl (by kernel_rfl) (fun _ _ _ h => h) (Or.inl ⟨by rfl, ?_⟩) ?_ ?_
              rotate_left
              · intro w'
                go_simp
                with_reducible rfl
              rotate_left
              · simp only [Act.put, List.setIfInBounds_toArray, List.set_cons_zero, List.set_cons_succ]
                rfl
              refine PrintLast.pure_ (i := 2) (N := some 30) (v := ?_) (a' := ?_) #[true, true, true, false, false, false, false, false, false, false, false, false, false, false, false, false, false, false, false, false, false, false] rfl rfl (by kernel_rfl) (fun _ _ _ h => h) (Or.inl ⟨by rfl, ?_⟩) ?_ ?_
              rotate_left
              · intro w'
                go_simp
                with_reducible rfl
              rotate_left
              · simp only [Act.put, List.setIfInBounds_toArray, List.set_cons_zero, List.set_cons_succ]
                rfl
              refine PrintLast.pure_ (i := 3) (N := some 31) (v := ?_) (a' := ?_) #[true, true, true, true, false, false, false, false, false, false, false, false, false, false, false, false, false, false, false, false, false, false] rfl rfl (by kernel_rfl) (fun _ _ _ h => h) (Or.inl ⟨by rfl, ?_⟩) ?_ ?_
              rotate_left
              · intro w'
                go_simp
                with_reducible rfl
              rotate_left
              · simp only [Act.put, List.setIfInBounds_toArray, List.set_cons_zero, List.set_cons_succ]
                rfl
              refine PrintLast.pure_ (i := 4) (N := some 32) (v := ?_) (a' := ?_) #[true, true, true, true, true, false, false, false, false, false, false, false, false, false, false, false, false, false, false, false, false, false] rfl rfl (by kernel_rfl) (fun _ _ _ h => h) (Or.inl ⟨by rfl, ?_⟩) ?_ ?_
              rotate_left
              · intro w'
                go_simp
                with_reducible rfl
              rotate_left
              · simp only [Act.put, List.setIfInBounds_toArray, List.set_cons_zero, List.set_cons_succ]
                rfl
              refine PrintLast.pure_ (i := 5) (N := some 33) (v := ?_) (a' := ?_) #[true, true, true, true, true, true, false, false, false, false, false, false, false, false, false, false, false, false, false, false, false, false] rfl rfl (by kernel_rfl) (fun _ _ _ h => h) (Or.inl ⟨by rfl, ?_⟩) ?_ ?_
              rotate_left
              · intro w'
                go_simp
                with_reducible rfl
              rotate_left
              · simp only [Act.put, List.setIfInBounds_toArray, List.set_cons_zero, List.set_cons_succ]
                rfl
              refine PrintLast.pure_ (i := 6) (N := some 34) (v := .slice A2 (files.length - (ix + 1)) (c - (ix + 1))) (a' := ?_) #[true, true, true, true, true, true, true, false, false, false, false, false, false, false, false, false, false, false, false, false, false, false] rfl rfl (by kernel_rfl) (fun _ _ _ h => h) (Or.inl ⟨by rfl, ?_⟩) ?_ ?_
              skip
              · intro w'
                exact exec_slice (by rfl) (by rfl) (by rfl) HSL.out (by kernel_rfl)
              rotate_left
              · simp only [Act.put, List.setIfInBounds_toArray, List.set_cons_zero, List.set_cons_succ]
                rfl
              refine PrintLast.pure_ (i := 7) (N := some 35) (v := ?_) (a' := ?_) #[true, true, true, true, true, true, true, true, false, false, false, false, false, false, false, false, false, false, false, false, false, false] rfl rfl (by kernel_rfl) (fun _ _ _ h => h) (Or.inl ⟨by rfl, ?_⟩) ?_ ?_
              rotate_left
              · intro w'
                go_simp
                with_reducible rfl
              rotate_left
              · simp only [Act.put, List.setIfInBounds_toArray, List.set_cons_zero, List.set_cons_succ]
                rfl
              refine PrintLast.one_ (i := 8) (N := some 36) #[true, true, true, true, true, true, true, true, true, false, false, false, false, false, false, false, false, false, false, false, false, false] rfl rfl (by kernel_rfl) (by decide) (fun K hK => ?_)
              refine PrintLast.goes_ Try.func90 (by kernel_rfl) rfl #[.slice A2 (files.length - (ix + 1)) (c - (ix + 1)), .func (.func 88) #[] #[.pointer (some ⟨gf, 0, none⟩)]] (by rfl) rfl rfl (by simp only [List.map_toArray, List.map_cons, List.map_nil]; rfl) ?_
              refine (HSK.out _ hHeld).mono ?_
              rintro e W1 ⟨rfl, hst⟩
              have hst1 := below_step hHeld hst
              refine ⟨_, rfl, ?_⟩
              refine hK.out _ _ hst1 (fun hHeld => ?_)
              clear hK K
              refine PrintLast.norm_ (a' := ?_) ?_ ?_
              rotate_left
              · show Act.put _ (some 36) _ = _
                simp only [Act.put, List.setIfInBounds_toArray, List.set_cons_zero, List.set_cons_succ]
                rfl
              clear hst
              refine PrintLast.pure_ (i := 9) (N := some 37) (v := ?_) (a' := ?_) #[true, true, true, true, true, true, true, true, true, true, false, false, false, false, false, false, false, false, false, false, false, false] rfl rfl (by kernel_rfl) (fun _ _ _ h => h) (Or.inl ⟨by rfl, ?_⟩) ?_ ?_
              rotate_left
              · intro w'
                go_simp
                with_reducible rfl
              rotate_left
              · simp only [Act.put, List.setIfInBounds_toArray, List.set_cons_zero, List.set_cons_succ]
                rfl
              refine PrintLast.pure_ (i := 10) (N := some 38) (v := ?_) (a' := ?_) #[true, true, true, true, true, true, true, true, true, true, true, false, false, false, false, false, false, false, false, false, false, false] rfl rfl (by kernel_rfl) (fun _ _ _ h => h) (Or.inl ⟨by rfl, ?_⟩) ?_ ?_
              rotate_left
              · intro w'
                go_simp
                with_reducible rfl
              rotate_left
              · simp only [Act.put, List.setIfInBounds_toArray, List.set_cons_zero, List.set_cons_succ]
                rfl
              refine PrintLast.pure_ (i := 11) (N := some 39) (v := ?_) (a' := ?_) #[true, true, true, true, true, true, true, true, true, true, true, true, false, false, false, false, false, false, false, false, false, false] rfl rfl (by kernel_rfl) (fun _ _ _ h => h) (Or.inl ⟨by rfl, ?_⟩) ?_ ?_
              rotate_left
              · intro w'
                go_simp
                with_reducible rfl
              rotate_left
              · simp only [Act.put, List.setIfInBounds_toArray, List.set_cons_zero, List.set_cons_succ]
                rfl
              refine PrintLast.pure_ (i := 12) (N := some 40) (v := ?_) (a' := ?_) #[true, true, true, true, true, true, true, true, true, true, true, true, true, false, false, false, false, false, false, false, false, false] rfl rfl (by kernel_rfl) (fun _ _ _ h => h) (Or.inl ⟨by rfl, ?_⟩) ?_ ?_
              rotate_left
              · intro w'
                go_simp
                with_reducible rfl
              rotate_left
              · simp only [Act.put, List.setIfInBounds_toArray, List.set_cons_zero, List.set_cons_succ]
                rfl
              refine PrintLast.pure_ (i := 13) (N := some 41) (v := ?_) (a' := ?_) #[true, true, true, true, true, true, true, true, true, true, true, true, true, true, false, false, false, false, false, false, false, false] rfl rfl (by kernel_rfl) (fun _ _ _ h => h) (Or.inl ⟨by rfl, ?_⟩) ?_ ?_
              rotate_left
              · intro w'
                go_simp
                with_reducible rfl
              rotate_left
              · simp only [Act.put, List.setIfInBounds_toArray, List.set_cons_zero, List.set_cons_succ]
                rfl
              refine PrintLast.pure_ (i := 14) (N := some 42) (v := ?_) (a' := ?_) #[true, true, true, true, true, true, true, true, true, true, true, true, true, true, true, false, false, false, false, false, false, false] rfl rfl (by kernel_rfl) (fun _ _ _ h => h) (Or.inl ⟨by rfl, ?_⟩) ?_ ?_
              rotate_left
              · intro w'
                go_simp
                with_reducible rfl
              rotate_left
              · simp only [Act.put, List.setIfInBounds_toArray, List.set_cons_zero, List.set_cons_succ]
                rfl
              refine PrintLast.pure_ (i := 15) (N := some 43) (v := ?_) (a' := ?_) #[true, true, true, true, true, true, true, true, true, true, true, true, true, true, true, true, false, false, false, false, false, false] rfl rfl (by kernel_rfl) (fun _ _ _ h => h) (Or.inl ⟨by rfl, ?_⟩) ?_ ?_
              rotate_left
              · intro w'
                go_simp
                with_reducible rfl
              rotate_left
              · simp only [Act.put, List.setIfInBounds_toArray, List.set_cons_zero, List.set_cons_succ]
                rfl
              refine PrintLast.take_ (i := 16) (N := some 44) (v := ?_) (a' := ?_) #[true, true, true, true, true, true, true, true, true, true, true, true, true, true, true, true, true, false, false, false, false, false] rfl rfl (by kernel_rfl) (fun _ _ _ h => h) (Or.inl ⟨by rfl, ?_⟩) hHeld ?_ ?_
              rotate_left
              · intro w' s0
                (have g1 := cell_stay s0 hd1; go_simp; with_reducible rfl)
              rotate_left
              · simp only [Act.put, List.setIfInBounds_toArray, List.set_cons_zero, List.set_cons_succ]
                rfl
              refine PrintLast.pure_ (i := 17) (N := some 45) (v := ?_) (a' := ?_) #[true, true, true, true, true, true, true, true, true, true, true, true, true, true, true, true, true, true, false, false, false, false] rfl rfl (by kernel_rfl) (fun _ _ _ h => h) (Or.inl ⟨by rfl, ?_⟩) ?_ ?_
              rotate_left
              · intro w'
                go_simp
                with_reducible rfl
              rotate_left
              · simp only [Act.put, List.setIfInBounds_toArray, List.set_cons_zero, List.set_cons_succ]
                rfl
              refine PrintLast.pure_ (i := 18) (N := some 46) (v := ?_) (a' := ?_) #[true, true, true, true, true, true, true, true, true, true, true, true, true, true, true, true, true, true, true, false, false, false] rfl rfl (by kernel_rfl) (fun _ _ _ h => h) (Or.inl ⟨by rfl, ?_⟩) ?_ ?_
              rotate_left
              · intro w'
                go_simp
                with_reducible rfl
              rotate_left
              · simp only [Act.put, List.setIfInBounds_toArray, List.set_cons_zero, List.set_cons_succ]
                rfl
              refine PrintLast.take_ (i := 19) (N := some 47) (v := ?_) (a' := ?_) #[true, true, true, true, true, true, true, true, true, true, true, true, true, true, true, true, true, true, true, true, false, false] rfl rfl (by kernel_rfl) (fun _ _ _ h => h) (Or.inl ⟨by rfl, ?_⟩) hHeld ?_ ?_
              rotate_left
              · intro w' s0
                (have g1 := cell_stay s0 hf1; go_simp; with_reducible rfl)
              rotate_left
              · simp only [Act.put, List.setIfInBounds_toArray, List.set_cons_zero, List.set_cons_succ]
                rfl
              refine PrintLast.pure_ (i := 20) (N := some 48) (v := ?_) (a' := ?_) #[true, true, true, true, true, true, true, true, true, true, true, true, true, true, true, true, true, true, true, true, true, false] rfl rfl (by kernel_rfl) (fun _ _ _ h => h) (Or.inl ⟨by rfl, ?_⟩) ?_ ?_
              rotate_left
              · intro w'
                go_simp
                with_reducible rfl
              rotate_left
              · simp only [Act.put, List.setIfInBounds_toArray, List.set_cons_zero, List.set_cons_succ]
                rfl
              refine PrintLast.pure_ (i := 21) (N := some 49) (v := ?_) (a' := ?_) #[true, true, true, true, true, true, true, true, true, true, true, true, true, true, true, true, true, true, true, true, true, true] rfl rfl (by kernel_rfl) (fun _ _ _ h => h) (Or.inl ⟨by rfl, ?_⟩) ?_ ?_
              rotate_left
              · intro w'
                go_simp
                with_reducible rfl
              rotate_left
              · simp only [Act.put, List.setIfInBounds_toArray, List.set_cons_zero, List.set_cons_succ]
                rfl
              refine PrintLast.done_ (by kernel_rfl) ?_
              replace HX := Aside0.mk (HX.out.below hHeld)
              replace HO := Aside0.mk (Kd.R_below HO.out hHeld)
              have hd1 := cell_stay hHeld hd1
              have NX := Lib.hid (Kd.R_ne HO.out HX.out.bx (by decide))
              have HLEN : Hid (((dat files is).length + 1) * 24 ≤ 140737488351232) := Lib.hid (by unfold dat; rw [List.length_map, HLI.out]; omega)
              clear hHeld hst1 HSK HSL
              go_wp2_with ((at_builtin; go_loud (refine Kd.R_append (Kd.fixed KDt w) (w0 := w) w.heap.size rfl (.tmp 50) (.tmp 56) 59 103 (.slice none 0 0) 24 rfl Try.underlying59 infoDt rfl (by show 0 < 1; decide) (by omega) u6 ((dat files is)) (s.f1) ([.slice A1 s.f1.length c1]) (fun _ => True) (fun _ => False) rfl rfl ?aP (fun _ h => h.elim) ?aF ?aO ?aB ?aS ?aL ?_); (case aP => exact HMP.out); (case aB => exact HX.out.bel); (case aF => exact (fun _ _ => trivial)); (case aO => exact HO.out); (case aS => exact HX.out.bel.size); (case aL => have := HLEN.out; omega); intro v1 wq ho hb hg hat; have HO1 := Aside0.mk ho; have HX1 := Aside0.mk (HX.out.grown hg hb NX.out (KMeta.K_below hb HK.out))))
              go_roundw
              case rel => exact ⟨k + 1, is ++ [ix], by omega, by go_num, HM2, ⟨by rw [HDS.out]; exact HO1.out⟩, HX1⟩
              case measure => simp [intOf]; omega
            · have dd : ((s.f1.length : Int) == f.2.1) = false := beq_eq_false_iff_ne.2 hd
              have dd2 : ((s.f1.length : Int) != f.2.1) = true := by simp [hd]
              have EA2 : Hid (matchAt files f = none) := Lib.hid (EA'.out.trans (if_neg hd))
              have EN : Hid (mtD files m = []) := Lib.hid (by unfold mtD; rw [EM.out, HFL.out EA2.out])
              have EB : Hid ((mt files m).isSome = false) := Lib.hid (by rw [EM.out, HFL.out EA2.out]; rfl)
              clear EA' HSN HFL hd EA2
              go_upto_region 9 with fail
              refine PrintLast.start_ (n := 22) (S := fun w' => Below wr.heap.size wr w') (ds := []) #[false, false, false, false, false, false, false, false, false, false, false, false, false, false, false, false, false, false, false, false, false, false] (by kernel_rfl) rfl rfl (below_drew1 (Below.refl _ _)) (fun hHeld => ?_)
              generalize wr.drew = W0 at *
              refine PrintLast.pure_ (i := 0) (N := some 28) (v := ?_) (a' := ?_) #[true, false, false, false, false, false, false, false, false, false, false, false, false, false, false, false, false, false, false, false, false, false] rfl rfl (by kernel_rfl) (fun _ _ _ h => h) (Or.inl ⟨by rfl, ?_⟩) ?_ ?_
              rotate_left
              · intro w'
                go_simp
                with_reducible rfl
              rotate_left
              · simp only [Act.put, List.setIfInBounds_toArray, List.set_cons_zero, List.set_cons_succ]
                rfl
              refine PrintLast.pure_ (i := 1) (N := some 29) (v := ?_) (a' := ?_) #[true, true, false, false, false, false, false, false, false, false, false, false, false, false, false, false, false, false, false, false, false, false] rfl rfl (by kernel_rfl) (fun _ _ _ h => h) (Or.inl ⟨by rfl, ?_⟩) ?_ ?_
              rotate_left
              · intro w'
                go_simp
                with_reducible rfl
              rotate_left
              · simp only [Act.put, List.setIfInBounds_toArray, List.set_cons_zero, List.set_cons_succ]
                rfl
              refine PrintLast.pure_ (i := 2) (N := some 30) (v := ?_) (a' := ?_) #[true, true, true, false, false, false, false, false, false, false, false, false, false, false, false, false, false, false, false, false, false, false] rfl rfl (by kernel_rfl) (fun _ _ _ h => h) (Or.inl ⟨by rfl, ?_⟩) ?_ ?_
              rotate_left
              · intro w'
                go_simp
                with_reducible rfl
              rotate_left
              · simp only [Act.put, List.setIfInBounds_toArray, List.set_cons_zero, List.set_cons_succ]
                rfl
              refine PrintLast.pure_ (i := 3) (N := some 31) (v := ?_) (a' := ?_) #[true, true, true, true, false, false, false, false, false, false, false, false, false, false, false, false, false, false, false, false, false, false] rfl rfl (by kernel_rfl) (fun _ _ _ h => h) (Or.inl ⟨by rfl, ?_⟩) ?_ ?_
              rotate_left
              · intro w'
                go_simp
                with_reducible rfl
              rotate_left
              · simp only [Act.put, List.setIfInBounds_toArray, List.set_cons_zero, List.set_cons_succ]
                rfl
              refine PrintLast.pure_ (i := 4) (N := some 32) (v := ?_) (a' := ?_) #[true, true, true, true, true, false, false, false, false, false, false, false, false, false, false, false, false, false, false, false, false, false] rfl rfl (by kernel_rfl) (fun _ _ _ h => h) (Or.inl ⟨by rfl, ?_⟩) ?_ ?_
              rotate_left
              · intro w'
                go_simp
                with_reducible rfl
              rotate_left
              · simp only [Act.put, List.setIfInBounds_toArray, List.set_cons_zero, List.set_cons_succ]
                rfl
              refine PrintLast.pure_ (i := 5) (N := some 33) (v := ?_) (a' := ?_) #[true, true, true, true, true, true, false, false, false, false, false, false, false, false, false, false, false, false, false, false, false, false] rfl rfl (by kernel_rfl) (fun _ _ _ h => h) (Or.inl ⟨by rfl, ?_⟩) ?_ ?_
              rotate_left
              · intro w'
                go_simp
                with_reducible rfl
              rotate_left
              · simp only [Act.put, List.setIfInBounds_toArray, List.set_cons_zero, List.set_cons_succ]
                rfl
              refine PrintLast.pure_ (i := 6) (N := some 34) (v := .slice A2 (files.length - (ix + 1)) (c - (ix + 1))) (a' := ?_) #[true, true, true, true, true, true, true, false, false, false, false, false, false, false, false, false, false, false, false, false, false, false] rfl rfl (by kernel_rfl) (fun _ _ _ h => h) (Or.inl ⟨by rfl, ?_⟩) ?_ ?_
              skip
              · intro w'
                exact exec_slice (by rfl) (by rfl) (by rfl) HSL.out (by kernel_rfl)
              rotate_left
              · simp only [Act.put, List.setIfInBounds_toArray, List.set_cons_zero, List.set_cons_succ]
                rfl
              refine PrintLast.pure_ (i := 7) (N := some 35) (v := ?_) (a' := ?_) #[true, true, true, true, true, true, true, true, false, false, false, false, false, false, false, false, false, false, false, false, false, false] rfl rfl (by kernel_rfl) (fun _ _ _ h => h) (Or.inl ⟨by rfl, ?_⟩) ?_ ?_
              rotate_left
              · intro w'
                go_simp
                with_reducible rfl
              rotate_left
              · simp only [Act.put, List.setIfInBounds_toArray, List.set_cons_zero, List.set_cons_succ]
                rfl
              refine PrintLast.one_ (i := 8) (N := some 36) #[true, true, true, true, true, true, true, true, true, false, false, false, false, false, false, false, false, false, false, false, false, false] rfl rfl (by kernel_rfl) (by decide) (fun K hK => ?_)
              refine PrintLast.goes_ Try.func90 (by kernel_rfl) rfl #[.slice A2 (files.length - (ix + 1)) (c - (ix + 1)), .func (.func 88) #[] #[.pointer (some ⟨gf, 0, none⟩)]] (by rfl) rfl rfl (by simp only [List.map_toArray, List.map_cons, List.map_nil]; rfl) ?_
              refine (HSK.out _ hHeld).mono ?_
              rintro e W1 ⟨rfl, hst⟩
              have hst1 := below_step hHeld hst
              refine ⟨_, rfl, ?_⟩
              refine hK.out _ _ hst1 (fun hHeld => ?_)
              clear hK K
              refine PrintLast.norm_ (a' := ?_) ?_ ?_
              rotate_left
              · show Act.put _ (some 36) _ = _
                simp only [Act.put, List.setIfInBounds_toArray, List.set_cons_zero, List.set_cons_succ]
                rfl
              clear hst
              refine PrintLast.pure_ (i := 9) (N := some 37) (v := ?_) (a' := ?_) #[true, true, true, true, true, true, true, true, true, true, false, false, false, false, false, false, false, false, false, false, false, false] rfl rfl (by kernel_rfl) (fun _ _ _ h => h) (Or.inl ⟨by rfl, ?_⟩) ?_ ?_
              rotate_left
              · intro w'
                go_simp
                with_reducible rfl
              rotate_left
              · simp only [Act.put, List.setIfInBounds_toArray, List.set_cons_zero, List.set_cons_succ]
                rfl
              refine PrintLast.pure_ (i := 10) (N := some 38) (v := ?_) (a' := ?_) #[true, true, true, true, true, true, true, true, true, true, true, false, false, false, false, false, false, false, false, false, false, false] rfl rfl (by kernel_rfl) (fun _ _ _ h => h) (Or.inl ⟨by rfl, ?_⟩) ?_ ?_
              rotate_left
              · intro w'
                go_simp
                with_reducible rfl
              rotate_left
              · simp only [Act.put, List.setIfInBounds_toArray, List.set_cons_zero, List.set_cons_succ]
                rfl
              refine PrintLast.pure_ (i := 11) (N := some 39) (v := ?_) (a' := ?_) #[true, true, true, true, true, true, true, true, true, true, true, true, false, false, false, false, false, false, false, false, false, false] rfl rfl (by kernel_rfl) (fun _ _ _ h => h) (Or.inl ⟨by rfl, ?_⟩) ?_ ?_
              rotate_left
              · intro w'
                go_simp
                with_reducible rfl
              rotate_left
              · simp only [Act.put, List.setIfInBounds_toArray, List.set_cons_zero, List.set_cons_succ]
                rfl
              refine PrintLast.pure_ (i := 12) (N := some 40) (v := ?_) (a' := ?_) #[true, true, true, true, true, true, true, true, true, true, true, true, true, false, false, false, false, false, false, false, false, false] rfl rfl (by kernel_rfl) (fun _ _ _ h => h) (Or.inl ⟨by rfl, ?_⟩) ?_ ?_
              rotate_left
              · intro w'
                go_simp
                with_reducible rfl
              rotate_left
              · simp only [Act.put, List.setIfInBounds_toArray, List.set_cons_zero, List.set_cons_succ]
                rfl
              refine PrintLast.pure_ (i := 13) (N := some 41) (v := ?_) (a' := ?_) #[true, true, true, true, true, true, true, true, true, true, true, true, true, true, false, false, false, false, false, false, false, false] rfl rfl (by kernel_rfl) (fun _ _ _ h => h) (Or.inl ⟨by rfl, ?_⟩) ?_ ?_
              rotate_left
              · intro w'
                go_simp
                with_reducible rfl
              rotate_left
              · simp only [Act.put, List.setIfInBounds_toArray, List.set_cons_zero, List.set_cons_succ]
                rfl
              refine PrintLast.pure_ (i := 14) (N := some 42) (v := ?_) (a' := ?_) #[true, true, true, true, true, true, true, true, true, true, true, true, true, true, true, false, false, false, false, false, false, false] rfl rfl (by kernel_rfl) (fun _ _ _ h => h) (Or.inl ⟨by rfl, ?_⟩) ?_ ?_
              rotate_left
              · intro w'
                go_simp
                with_reducible rfl
              rotate_left
              · simp only [Act.put, List.setIfInBounds_toArray, List.set_cons_zero, List.set_cons_succ]
                rfl
              refine PrintLast.pure_ (i := 15) (N := some 43) (v := ?_) (a' := ?_) #[true, true, true, true, true, true, true, true, true, true, true, true, true, true, true, true, false, false, false, false, false, false] rfl rfl (by kernel_rfl) (fun _ _ _ h => h) (Or.inl ⟨by rfl, ?_⟩) ?_ ?_
              rotate_left
              · intro w'
                go_simp
                with_reducible rfl
              rotate_left
              · simp only [Act.put, List.setIfInBounds_toArray, List.set_cons_zero, List.set_cons_succ]
                rfl
              refine PrintLast.take_ (i := 16) (N := some 44) (v := ?_) (a' := ?_) #[true, true, true, true, true, true, true, true, true, true, true, true, true, true, true, true, true, false, false, false, false, false] rfl rfl (by kernel_rfl) (fun _ _ _ h => h) (Or.inl ⟨by rfl, ?_⟩) hHeld ?_ ?_
              rotate_left
              · intro w' s0
                (have g1 := cell_stay s0 hd1; go_simp; with_reducible rfl)
              rotate_left
              · simp only [Act.put, List.setIfInBounds_toArray, List.set_cons_zero, List.set_cons_succ]
                rfl
              refine PrintLast.pure_ (i := 17) (N := some 45) (v := ?_) (a' := ?_) #[true, true, true, true, true, true, true, true, true, true, true, true, true, true, true, true, true, true, false, false, false, false] rfl rfl (by kernel_rfl) (fun _ _ _ h => h) (Or.inl ⟨by rfl, ?_⟩) ?_ ?_
              rotate_left
              · intro w'
                go_simp
                with_reducible rfl
              rotate_left
              · simp only [Act.put, List.setIfInBounds_toArray, List.set_cons_zero, List.set_cons_succ]
                rfl
              refine PrintLast.pure_ (i := 18) (N := some 46) (v := ?_) (a' := ?_) #[true, true, true, true, true, true, true, true, true, true, true, true, true, true, true, true, true, true, true, false, false, false] rfl rfl (by kernel_rfl) (fun _ _ _ h => h) (Or.inl ⟨by rfl, ?_⟩) ?_ ?_
              rotate_left
              · intro w'
                go_simp
                with_reducible rfl
              rotate_left
              · simp only [Act.put, List.setIfInBounds_toArray, List.set_cons_zero, List.set_cons_succ]
                rfl
              refine PrintLast.take_ (i := 19) (N := some 47) (v := ?_) (a' := ?_) #[true, true, true, true, true, true, true, true, true, true, true, true, true, true, true, true, true, true, true, true, false, false] rfl rfl (by kernel_rfl) (fun _ _ _ h => h) (Or.inl ⟨by rfl, ?_⟩) hHeld ?_ ?_
              rotate_left
              · intro w' s0
                (have g1 := cell_stay s0 hf1; go_simp; with_reducible rfl)
              rotate_left
              · simp only [Act.put, List.setIfInBounds_toArray, List.set_cons_zero, List.set_cons_succ]
                rfl
              refine PrintLast.pure_ (i := 20) (N := some 48) (v := ?_) (a' := ?_) #[true, true, true, true, true, true, true, true, true, true, true, true, true, true, true, true, true, true, true, true, true, false] rfl rfl (by kernel_rfl) (fun _ _ _ h => h) (Or.inl ⟨by rfl, ?_⟩) ?_ ?_
              rotate_left
              · intro w'
                go_simp
                with_reducible rfl
              rotate_left
              · simp only [Act.put, List.setIfInBounds_toArray, List.set_cons_zero, List.set_cons_succ]
                rfl
              refine PrintLast.pure_ (i := 21) (N := some 49) (v := ?_) (a' := ?_) #[true, true, true, true, true, true, true, true, true, true, true, true, true, true, true, true, true, true, true, true, true, true] rfl rfl (by kernel_rfl) (fun _ _ _ h => h) (Or.inl ⟨by rfl, ?_⟩) ?_ ?_
              rotate_left
              · intro w'
                go_simp
                with_reducible rfl
              rotate_left
              · simp only [Act.put, List.setIfInBounds_toArray, List.set_cons_zero, List.set_cons_succ]
                rfl
              refine PrintLast.done_ (by kernel_rfl) ?_
              have HX2 := Aside0.mk (HX.out.below hHeld)
              go_wp2
              go_ret2
              exact ⟨none, 0, by rw [EN.out, EB.out]; rfl, by rw [EN.out]; exact Kd.C_nil _ _, HX2.out.bel⟩
      · have ek : m.2.2.1.take k = m.2.2.1 := by rw [show k = m.2.2.1.length by omega, List.take_length]
        have hm := HM.out
        rw [ek] at hm
        have EN : Hid (mtD files m = dat files is) := Lib.hid (by unfold mtD; rw [EM.out, hm])
        have EB : Hid ((mt files m).isSome = true) := Lib.hid (by rw [EM.out, hm]; rfl)
        obtain ⟨A', c', e, _, hC⟩ := Kd.R_reads HO.out
        have HC : Aside0 (KDt.C wr A' (dat files is).length (dat files is)) := ⟨ReadsRow.imp_ hC (Below.refl _ _) fun _ _ hp => KDt.K_below HX.out.bel hp⟩
        subst e
        clear hC ek hm
        go_wp2
        go_ret2
        exact ⟨A', c', by rw [EN.out, EB.out]; rfl, by rw [EN.out]; exact HC.out, HX.out.bel⟩
  · have b1 : ((files.length : Int) == (m.2.2.1.length : Int)) = false := by simp; omega
    have b2 : ((files.length : Int) != (m.2.2.1.length : Int)) = true := by simp; omega
    have b3 : (files.length == m.2.2.1.length) = false := by simpa using hl
    have EM : mt files m = none := by unfold mt; rw [if_neg hl]
    have EN : Hid (mtD files m = []) := Lib.hid (by unfold mtD; rw [EM])
    have EB : Hid ((mt files m).isSome = false) := Lib.hid (by rw [EM]; rfl)
    clear EM
    go_enter Try.func69, Try.ntmps69
    go_wp2
    go_ret2
    exact ⟨none, 0, by rw [EN.out, EB.out]; rfl, by rw [EN.out]; exact Kd.C_nil _ _, HX.out.bel⟩
end Cr
end Go.Proofs.Ytjeeakhgjcbhaaa
set_option linter.unusedVariables false
set_option linter.unusedSimpArgs false
namespace Go.Proofs.Ytjeeakhgjcbhaaa
open Go.RowKit Go.Proofs.YtjeeakhgjcbhaaaW.PrintWords Go.Proofs.YtjeeakhgjcbhaaaW Go.Proofs.YtjeeakhgjcbhaaaW.PrintMore
namespace Cr
open Wd Vl Mt Sa PCreateSlices
theorem exec_slice2 {P : Program} {ρ : Operand → Value} {o : Oper} {w : World} {t : TypeId} {x lo hi : Operand} {A : Option Addr} {n c : Nat} {i j : Int} {v : Value} (ho : o.op = .slice t x (some lo) (some hi) none) (hx : ρ x = .slice A n c) (hl : ρ lo = .int .i64 i) (hh : ρ hi = .int .i64 j) (hr : ∀ w, (Instr.slice t (.slice A n c) (some (.int .i64 i)) (some (.int .i64 j)) none).run P w = .ok v w) (ht : P.underlying t = some (.slice (P.elem t))) : (execOp ρ o).run P w = .ok (.value v) w := by
  unfold execOp
  simp only [ho, hx, hl, hh, Option.map_some, Option.map_none, Sem.run_bind, run_sliceAt_slice _ t _ _ _ _ ht, hr w, Sem.run_pure, Result.andThen_ok]
/-- The bytes of a piece. -/
def cutD (D : List (List Int)) (p : PlD) : List Int := ((D.getD p.1.toNat []).take (p.2.2.1 + p.2.2.2).toNat).drop p.2.2.1.toNat
/-- A place within the data. -/
structure InD (D : List (List Int)) (p : PlD) : Prop where
  i0 : 0 ≤ p.1
  i1 : p.1 < D.length
  f0 : 0 ≤ p.2.2.1
  l0 : 0 ≤ p.2.2.2
  l1 : p.2.2.1 + p.2.2.2 ≤ (D.getD p.1.toNat []).length
  mx : (D.getD p.1.toNat []).length ≤ 1099511627776
set_option maxHeartbeats 4000000 in
set_option maxRecDepth 100000 in
theorem slice1_any (p : PlD) (D : List (List Int)) (A : Option Addr) (c gd : Nat) (w : World) (hp : InD D p) (hb : w.heap[gd]? = some (.cells #[.slice A D.length c] 59)) (hD : KDt.C w A D.length D) :
    Calls Try.prog 71 #[.agg #[.int .i64 p.1, .int .i64 p.2.1, .int .i64 p.2.2.1, .int .i64 p.2.2.2], .pointer (some ⟨gd, 0, none⟩)] w fun e w' => ∃ v, e = .returned v ∧ (Kd.int .u8).R 5 w' w.heap.size (fun _ => True) v (cutD D p) ∧ Below w.heap.size w w' := by
  obtain ⟨i0, i1, f0, l0, l1, mx⟩ := hp
  obtain ⟨ad, scs, ea, _, hK, hcs⟩ := Kd.C_get hD [] p.1 i0 i1
  subst ea
  change ∀ j u, scs[j]? = some u → w.cell? (ad.add (p.1.toNat * 1 + j)) = some u at hcs
  have EC : Hid (cutD D p = ((D.getD p.1.toNat []).take (p.2.2.1 + p.2.2.2).toNat).drop p.2.2.1.toNat) := Lib.hid rfl
  obtain ⟨B, cd, rfl, hcd, hd⟩ := hK
  generalize D.getD p.1.toNat [] = d at *
  have hda : w.cell? (ad.add p.1.toNat) = some (.slice B d.length cd) := by have := hcs 0 _ rfl; rwa [Nat.mul_one, Nat.add_zero] at this
  obtain ⟨lo, hlo⟩ : ∃ lo : Nat, p.2.2.1 = lo := ⟨p.2.2.1.toNat, by omega⟩
  obtain ⟨ln, hln⟩ : ∃ ln : Nat, p.2.2.2 = ln := ⟨p.2.2.2.toNat, by omega⟩
  obtain ⟨ix, hix⟩ : ∃ ix : Nat, p.1 = ix := ⟨p.1.toNat, by omega⟩
  have i1' : (ix : Int) < (D.length : Int) := by omega
  rw [hlo, hln] at EC l1
  rw [hix, Int.toNat_natCast] at hda
  have hB := below_alloc (Below.refl w.heap.size w) (.cells #[.int .i64 p.1, .int .i64 p.2.1, .int .i64 p.2.2.1, .int .i64 p.2.2.2] 53)
  rw [hlo, hln, hix] at hB ⊢
  have HSL : Hid (∀ W, (Instr.slice 103 (.slice B d.length cd) (some (.int .i64 (lo : Int))) (some (.int .i64 ((lo : Int) + ln))) none).run Try.prog W = .ok (.slice (if cd = lo then B else B.map (·.add (lo * 1))) (lo + ln - lo) (cd - lo)) W) := Lib.hid fun W => by
    obtain ⟨i0, hi0, hz⟩ := Option.map_eq_some_iff.1 (show (Try.prog.info? 5).map (·.size) = some 1 by kernel_rfl)
    have := cut_mid (P := Try.prog) 103 5 .i64 .i64 Try.underlying103 hi0 1 hz B d.length cd (lo : Int) ((lo : Int) + ln) (by omega) (by omega) (by omega) hcd W
    rw [show ((lo : Int) + ln).toNat = lo + ln by omega, Int.toNat_natCast] at this
    exact this
  have hcut : ((d.take (lo + ln)).drop lo).length = lo + ln - lo := by rw [List.length_drop, List.length_take]; omega
  have EC2 : Hid (cutD D p = (d.take (lo + ln)).drop lo) := Lib.hid (by rw [EC.out]; first | rfl | rw [show ((lo : Int) + ln).toNat = lo + ln by omega, Int.toNat_natCast])
  have HCC : Hid (∀ W, Below w.heap.size w W → (Kd.int .u8).C W (if cd = lo then B else B.map (·.add (lo * 1))) ((d.take (lo + ln)).drop lo).length ((d.take (lo + ln)).drop lo)) := Lib.hid fun W hb => Kd.C_mid (Kd.C_below hd hb) (by omega) (by omega) hcd
  generalize (if cd = lo then B else B.map (·.add (lo * 1))) = A2 at *
  generalize cd - lo = C2 at *
  have hwx : IntKind.i64.wrap ((lo : Int) + ln) = (lo : Int) + ln := (PrintLast.i64_w _).trans (w64 (by omega) (by omega))
  have HCL : Hid (∀ W, Below (w.alloc (.cells #[.int .i64 (ix : Int), .int .i64 p.2.1, .int .i64 (lo : Int), .int .i64 (ln : Int)] 53)).heap.size (w.alloc (.cells #[.int .i64 (ix : Int), .int .i64 p.2.1, .int .i64 (lo : Int), .int .i64 (ln : Int)] 53)) W → Calls Try.prog 72 #[.slice A2 (lo + ln - lo) C2] W fun e w' => ∃ v, e = .returned v ∧ (Kd.int .u8).R 5 w' W.heap.size (fun _ => True) v ((d.take (lo + ln)).drop lo) ∧ Below W.heap.size W w') := Lib.hid fun W hb => by
    have := cloneB_any A2 C2 ((d.take (lo + ln)).drop lo) W (HCC.out W (below_step hB hb)) (by rw [hcut]; omega)
    rw [hcut] at this
    exact this
  have hg0 : (w.alloc (.cells #[.int .i64 (ix : Int), .int .i64 p.2.1, .int .i64 (lo : Int), .int .i64 (ln : Int)] 53)).cell? ⟨gd, 0, none⟩ = some (.slice (some ad) D.length c) := cell_stay hB (Go.Joins.cell_of_block hb 0)
  have hd0 := cell_stay hB hda
  have hp0 : (w.alloc (.cells #[.int .i64 (ix : Int), .int .i64 p.2.1, .int .i64 (lo : Int), .int .i64 (ln : Int)] 53)).cell? ⟨w.heap.size, 0, none⟩ = some (.int .i64 (ix : Int)) := Go.Joins.cell_of_block (heap_alloc_new w _) 0
  have hp2 : (w.alloc (.cells #[.int .i64 (ix : Int), .int .i64 p.2.1, .int .i64 (lo : Int), .int .i64 (ln : Int)] 53)).cell? ⟨w.heap.size, 2, none⟩ = some (.int .i64 (lo : Int)) := Go.Joins.cell_of_block (heap_alloc_new w _) 2
  have hp3 : (w.alloc (.cells #[.int .i64 (ix : Int), .int .i64 p.2.1, .int .i64 (lo : Int), .int .i64 (ln : Int)] 53)).cell? ⟨w.heap.size, 3, none⟩ = some (.int .i64 (ln : Int)) := Go.Joins.cell_of_block (heap_alloc_new w _) 3
  have hB' := Lib.hid hB
  have hsz : Hid (w.heap.size ≤ (w.alloc (.cells #[.int .i64 (ix : Int), .int .i64 p.2.1, .int .i64 (lo : Int), .int .i64 (ln : Int)] 53)).heap.size) := Lib.hid hB.size
  clear hb hD hcs hcd hd EC hda hB HCC hcut i1 hlo hln
  go_enter Try.func71, Try.ntmps71
  go_upto_region 1 with fail
  generalize w.alloc (.cells #[.int .i64 (ix : Int), .int .i64 p.2.1, .int .i64 (lo : Int), .int .i64 (ln : Int)] 53) = wr at *
  generalize lo + ln - lo = N2 at *
  refine PrintLast.start_ (n := 15) (S := fun w' => Below wr.heap.size wr w') (ds := []) #[false, false, false, false, false, false, false, false, false, false, false, false, false, false, false] (by kernel_rfl) rfl rfl (below_drew1 (Below.refl _ _)) (fun hHeld => ?_)
  generalize wr.drew = W0 at *
  refine PrintLast.take_ (i := 0) (N := some 4) (v := ?_) (a' := ?_) #[true, false, false, false, false, false, false, false, false, false, false, false, false, false, false] rfl rfl (by kernel_rfl) (fun _ _ _ h => h) (Or.inl ⟨by rfl, ?_⟩) hHeld ?_ ?_
  rotate_left
  · intro w' s0
    (have g1 := cell_stay s0 hg0; go_simp; with_reducible rfl)
  rotate_left
  · simp only [Act.put, List.setIfInBounds_toArray, List.set_cons_zero, List.set_cons_succ]
    rfl
  refine PrintLast.pure_ (i := 1) (N := some 5) (v := ?_) (a' := ?_) #[true, true, false, false, false, false, false, false, false, false, false, false, false, false, false] rfl rfl (by kernel_rfl) (fun _ _ _ h => h) (Or.inl ⟨by rfl, ?_⟩) ?_ ?_
  rotate_left
  · intro w'
    go_simp
    with_reducible rfl
  rotate_left
  · simp only [Act.put, List.setIfInBounds_toArray, List.set_cons_zero, List.set_cons_succ]
    rfl
  refine PrintLast.take_ (i := 2) (N := some 6) (v := ?_) (a' := ?_) #[true, true, true, false, false, false, false, false, false, false, false, false, false, false, false] rfl rfl (by kernel_rfl) (fun _ _ _ h => h) (Or.inl ⟨by rfl, ?_⟩) hHeld ?_ ?_
  rotate_left
  · intro w' s0
    (have g1 := cell_stay s0 hp0; go_simp; with_reducible rfl)
  rotate_left
  · simp only [Act.put, List.setIfInBounds_toArray, List.set_cons_zero, List.set_cons_succ]
    rfl
  refine PrintLast.pure_ (i := 3) (N := some 7) (v := ?_) (a' := ?_) #[true, true, true, true, false, false, false, false, false, false, false, false, false, false, false] rfl rfl (by kernel_rfl) (fun _ _ _ h => h) (Or.inl ⟨by rfl, ?_⟩) ?_ ?_
  rotate_left
  · intro w'
    go_simp
    with_reducible rfl
  rotate_left
  · simp only [Act.put, List.setIfInBounds_toArray, List.set_cons_zero, List.set_cons_succ]
    rfl
  refine PrintLast.take_ (i := 4) (N := some 8) (v := ?_) (a' := ?_) #[true, true, true, true, true, false, false, false, false, false, false, false, false, false, false] rfl rfl (by kernel_rfl) (fun _ _ _ h => h) (Or.inl ⟨by rfl, ?_⟩) hHeld ?_ ?_
  rotate_left
  · intro w' s0
    (have g1 := cell_stay s0 hd0; go_simp; with_reducible rfl)
  rotate_left
  · simp only [Act.put, List.setIfInBounds_toArray, List.set_cons_zero, List.set_cons_succ]
    rfl
  refine PrintLast.pure_ (i := 5) (N := some 9) (v := ?_) (a' := ?_) #[true, true, true, true, true, true, false, false, false, false, false, false, false, false, false] rfl rfl (by kernel_rfl) (fun _ _ _ h => h) (Or.inl ⟨by rfl, ?_⟩) ?_ ?_
  rotate_left
  · intro w'
    go_simp
    with_reducible rfl
  rotate_left
  · simp only [Act.put, List.setIfInBounds_toArray, List.set_cons_zero, List.set_cons_succ]
    rfl
  refine PrintLast.take_ (i := 6) (N := some 10) (v := ?_) (a' := ?_) #[true, true, true, true, true, true, true, false, false, false, false, false, false, false, false] rfl rfl (by kernel_rfl) (fun _ _ _ h => h) (Or.inl ⟨by rfl, ?_⟩) hHeld ?_ ?_
  rotate_left
  · intro w' s0
    (have g1 := cell_stay s0 hp2; go_simp; with_reducible rfl)
  rotate_left
  · simp only [Act.put, List.setIfInBounds_toArray, List.set_cons_zero, List.set_cons_succ]
    rfl
  refine PrintLast.pure_ (i := 7) (N := some 11) (v := ?_) (a' := ?_) #[true, true, true, true, true, true, true, true, false, false, false, false, false, false, false] rfl rfl (by kernel_rfl) (fun _ _ _ h => h) (Or.inl ⟨by rfl, ?_⟩) ?_ ?_
  rotate_left
  · intro w'
    go_simp
    with_reducible rfl
  rotate_left
  · simp only [Act.put, List.setIfInBounds_toArray, List.set_cons_zero, List.set_cons_succ]
    rfl
  refine PrintLast.take_ (i := 8) (N := some 12) (v := ?_) (a' := ?_) #[true, true, true, true, true, true, true, true, true, false, false, false, false, false, false] rfl rfl (by kernel_rfl) (fun _ _ _ h => h) (Or.inl ⟨by rfl, ?_⟩) hHeld ?_ ?_
  rotate_left
  · intro w' s0
    (have g1 := cell_stay s0 hp2; go_simp; with_reducible rfl)
  rotate_left
  · simp only [Act.put, List.setIfInBounds_toArray, List.set_cons_zero, List.set_cons_succ]
    rfl
  refine PrintLast.pure_ (i := 9) (N := some 13) (v := ?_) (a' := ?_) #[true, true, true, true, true, true, true, true, true, true, false, false, false, false, false] rfl rfl (by kernel_rfl) (fun _ _ _ h => h) (Or.inl ⟨by rfl, ?_⟩) ?_ ?_
  rotate_left
  · intro w'
    go_simp
    with_reducible rfl
  rotate_left
  · simp only [Act.put, List.setIfInBounds_toArray, List.set_cons_zero, List.set_cons_succ]
    rfl
  refine PrintLast.take_ (i := 10) (N := some 14) (v := ?_) (a' := ?_) #[true, true, true, true, true, true, true, true, true, true, true, false, false, false, false] rfl rfl (by kernel_rfl) (fun _ _ _ h => h) (Or.inl ⟨by rfl, ?_⟩) hHeld ?_ ?_
  rotate_left
  · intro w' s0
    (have g1 := cell_stay s0 hp3; go_simp; with_reducible rfl)
  rotate_left
  · simp only [Act.put, List.setIfInBounds_toArray, List.set_cons_zero, List.set_cons_succ]
    rfl
  refine PrintLast.pure_ (i := 11) (N := some 15) (v := ?_) (a' := ?_) #[true, true, true, true, true, true, true, true, true, true, true, true, false, false, false] rfl rfl (by kernel_rfl) (fun _ _ _ h => h) (Or.inl ⟨by rfl, ?_⟩) ?_ ?_
  rotate_left
  · intro w'
    go_simp
    with_reducible rfl
  rotate_left
  · simp only [Act.put, List.setIfInBounds_toArray, List.set_cons_zero, List.set_cons_succ]
    rfl
  refine PrintLast.pure_ (i := 12) (N := some 16) (v := .slice A2 N2 C2) (a' := ?_) #[true, true, true, true, true, true, true, true, true, true, true, true, true, false, false] rfl rfl (by kernel_rfl) (fun _ _ _ h => h) (Or.inl ⟨by rfl, ?_⟩) ?_ ?_
  skip
  · intro w'
    exact exec_slice2 (by rfl) (by rfl) (by rfl) (by rfl) HSL.out (by kernel_rfl)
  rotate_left
  · simp only [Act.put, List.setIfInBounds_toArray, List.set_cons_zero, List.set_cons_succ]
    rfl
  refine PrintLast.one_ (i := 13) (N := some 17) #[true, true, true, true, true, true, true, true, true, true, true, true, true, true, false] rfl rfl (by kernel_rfl) (by decide) (fun K hK => ?_)
  refine PrintLast.goes_ Try.func72 (by kernel_rfl) rfl #[.slice A2 N2 C2] (by rfl) rfl rfl (by simp only [List.map_toArray, List.map_cons, List.map_nil]; rfl) ?_
  refine (HCL.out _ hHeld).mono ?_
  rintro e W1 ⟨v, rfl, ho, hst⟩
  have hst1 := below_step hHeld hst
  have HO := Aside0.mk (Kd.R_lower ho hHeld.size)
  refine ⟨_, rfl, ?_⟩
  refine hK.out _ _ hst1 (fun hHeld => ?_)
  clear hK K
  refine PrintLast.norm_ (a' := ?_) ?_ ?_
  rotate_left
  · show Act.put _ (some 17) _ = _
    simp only [Act.put, List.setIfInBounds_toArray, List.set_cons_zero, List.set_cons_succ]
    rfl
  clear hst ho
  refine PrintLast.pure_ (i := 14) (N := some 3) (v := ?_) (a' := ?_) #[true, true, true, true, true, true, true, true, true, true, true, true, true, true, true] rfl rfl (by kernel_rfl) (fun _ _ _ h => h) (Or.inl ⟨by rfl, ?_⟩) ?_ ?_
  rotate_left
  · intro w'
    go_simp
    with_reducible rfl
  rotate_left
  · simp only [Act.put, List.setIfInBounds_toArray, List.set_cons_zero, List.set_cons_succ]
    rfl
  refine PrintLast.done_ (by kernel_rfl) ?_
  go_wp2
  go_ret
  exact ⟨v, rfl, by rw [EC2.out]; exact Kd.R_lower HO.out hsz.out, below_step hB'.out hHeld⟩
theorem R_okp {α : Type} {d : Kd α} {e base : Nat} {ok : Nat → Prop} {w : World} {v : Value} {xs : List α} (h : d.R e w base ok v xs) : d.R e w base (fun k => base ≤ k) v xs := Kd.R_mono (Kd.R_bound h) fun k hk => hk.2.1
set_option maxHeartbeats 4000000 in
set_option maxRecDepth 100000 in
theorem turnP_any (L : List PlD) (A : Option Addr) (c : Nat) (D : List (List Int)) (Ad : Option Addr) (cd gd : Nat) (w : World) (hL : KPl.C w A L.length L) (hmany : L.length ≤ 65536) (hin : ∀ p ∈ L, InD D p) (hb : w.heap[gd]? = some (.cells #[.slice Ad D.length cd] 59)) (hD : KDt.C w Ad D.length D) :
    Calls Try.prog 70 #[.slice A L.length c, .func (.func 71) #[] #[.pointer (some ⟨gd, 0, none⟩)]] w fun e w' => ∃ v, e = .returned v ∧ KDt.R 103 w' w.heap.size (fun _ => True) v (L.map (cutD D)) ∧ Below w.heap.size w w' := by
  obtain ⟨i0, hi0, hzz⟩ := Option.map_eq_some_iff.1 infoDt
  simp only [Prod.mk.injEq] at hzz
  obtain ⟨hz0, hz1, hz2⟩ := hzz
  have hmk0 : ∀ W : World, (Instr.makeSlice 59 (.int .i64 0) (.int .i64 (L.length : Int))).run Try.prog W = .ok (.slice (some ⟨W.heap.size, 0, none⟩) 0 L.length) (W.alloc (.cells (madeCells (Value.slice none 0 0).cells (L.length * 1)) 103)) := fun W => by
    have hr := run_make (P := Try.prog) (w := W) 59 103 i0 (.slice none 0 0) Try.underlying59 hi0 hz0 .i64 .i64 0 (L.length : Int) (by omega) (by omega) (by rw [hz2]; omega) (by omega)
    rw [hz1] at hr
    exact hr
  have hcz : (madeCells (Value.slice none 0 0).cells (L.length * 1)).size = L.length * 1 := size_madeCells _ _
  generalize madeCells (Value.slice none 0 0).cells (L.length * 1) = cur at *
  have HO0 : Aside0 (KDt.R 103 (w.alloc (.cells cur 103)) w.heap.size (fun _ => True) (.slice (some ⟨w.heap.size, 0, none⟩) 0 L.length) ((L.take 0).map (cutD D))) := ⟨⟨fun _ _ => trivial, [], World.ownsRow_made w cur L.length (Nat.le_refl _) (by unfold maxLen; omega) hcz, Reps.none _ _⟩⟩
  have HB0 := Aside0.mk (below_alloc (Below.refl w.heap.size w) (.cells cur 103))
  have HLc := Aside0.mk hL
  have HIN := Lib.hid hin
  have HBX := Aside0.mk hb
  have HDC := Aside0.mk hD
  clear hL hin hb hD hz0 hz1 hz2 hi0 hcz
  go_enter Try.func70, Try.ntmps70
  go_wp2
  go_loopw [5, 13] (fun v i wz => ∃ k : Nat, k ≤ L.length ∧ i = .int .i64 k ∧ Aside0 (KDt.R 103 wz w.heap.size (fun _ => True) v ((L.take k).map (cutD D))) ∧ Aside0 (Below w.heap.size w wz)) (fun v i _ => L.length - (intOf i).toNat)
  case atStart => exact ⟨0, by omega, rfl, HO0, HB0⟩
  case round =>
    clear HO0 HB0 hmk0
    obtain ⟨k, hk, rfl, HO, HB⟩ := hrel
    by_cases hlt : k < L.length
    · obtain ⟨ad, e0, hc⟩ := Fl.at_flat (0, 0, 0, 0) HLc.out k hlt
      subst e0
      have HIP := Lib.hid (HIN.out (L.getD k (0, 0, 0, 0)) (nth_mem (0, 0, 0, 0) L k hlt))
      have HT : Hid ((L.take (k + 1)).map (cutD D) = (L.take k).map (cutD D) ++ [cutD D (L.getD k (0, 0, 0, 0))]) := Lib.hid (by rw [List.take_succ_eq_append_getElem hlt, List.map_append, List.getD_eq_getElem?_getD, List.getElem?_eq_getElem hlt]; rfl)
      generalize L.getD k (0, 0, 0, 0) = p at *
      have HY : Hid (∀ j u, (encPl p)[j]? = some u → wr.cell? ((ad.add (k * 4)).add j) = some u) := Lib.hid fun j u hj => by
        rw [Go.Deep.add_add]
        exact cell_stay HB.out (hc j u hj)
      clear hc
      go_upto_region 5 with (first | ((with_reducible refine Fl.wpList_load rfl 53 (.tmp 15) rfl (ad.add (k * 4)) ?lx ((encPl p)) _ ?lc Try.underlying53 rfl ?li ?_); (case lx => rfl); (case lc => exact HY.out); (case li => exact (by kernel_rfl))) | ((with_reducible refine Fl.wpList_store_fresh rfl 53 (.tmp 7) (.tmp 16) rfl 53 _ ((encPl p)).toArray ?sx ?sy ?si ?so ?s1 ?_); (case sx => rfl); (case sy => rfl); (case si => exact (by kernel_rfl)); (case so => exact rfl); (case s1 => exact Fl.all_one (encPl_one p))))
      replace HB := Aside0.mk (below_step HB.out (below_alloc (Below.refl _ _) (.cells (encPl p).toArray 53)))
      replace HO := Aside0.mk (Kd.R_below HO.out (below_alloc (Below.refl _ _) (.cells (encPl p).toArray 53)))
      go_wp2_with ((with_reducible refine Fl.wpList_load_fresh rfl 53 (.tmp 7) rfl 53 ((encPl p)).toArray ?fx _ Try.underlying53 rfl ?fi ?_); (case fx => rfl); (case fi => exact (by kernel_rfl)))
      go_at_call 71
      refine (slice1_any p D Ad cd gd _ HIP.out (blk_below HBX.out HB.out) (Kd.C_below HDC.out HB.out)).mono ?_
      rintro e w2 ⟨v, rfl, hv, hb2⟩
      obtain ⟨Av, cv, rfl⟩ := Kd.R_slice hv
      have HOK : Hid (∀ k, (wr.alloc (.cells (encPl p).toArray 53)).heap.size ≤ k → True ∧ some k ≠ u5.ownBlock) := Lib.hid fun k hk => ⟨trivial, fun e => by have := Kd.R_lt HO.out k e.symm; omega⟩
      have HMP : Hid (KDt.M w2 w.heap.size (fun k => (wr.alloc (.cells (encPl p).toArray 53)).heap.size ≤ k) (cutD D p) [.slice Av (cutD D p).length cv]) := Lib.hid ⟨_, rfl, Kd.R_lower (R_okp hv) HB.out.size⟩
      generalize (wr.alloc (.cells (encPl p).toArray 53)).heap.size = hz at HOK HMP
      replace HB := Aside0.mk (below_step HB.out hb2)
      replace HO := Aside0.mk (Kd.R_below HO.out hb2)
      have HLEN : Hid ((((L.take k).map (cutD D)).length + 1) * 24 ≤ 140737488351232) := Lib.hid (by rw [List.length_map, List.length_take]; omega)
      clear hv hb2
      go_wp2_with ((at_builtin; go_loud (refine Kd.R_append KDt (w0 := w) w.heap.size rfl (.tmp 17) (.tmp 21) 59 103 (.slice none 0 0) 24 rfl Try.underlying59 infoDt rfl (by decide) (by omega) u5 (((L.take k).map (cutD D))) ((cutD D p)) ([.slice Av (cutD D p).length cv]) (fun _ => True) (fun k => hz ≤ k) rfl rfl ?aP HOK.out ?aF ?aO ?aB ?aS ?aL ?_); (case aP => exact HMP.out); (case aB => exact HB.out); (case aF => exact (fun _ _ => trivial)); (case aO => exact HO.out); (case aS => exact below_size HB.out); (case aL => have := HLEN.out; omega); intro v1 wq ho hb hg hat; have HO1 := Aside0.mk ho; have HB1 := Aside0.mk hb))
      go_roundw
      case rel => exact ⟨k + 1, by omega, by go_num, ⟨by rw [HT.out]; exact HO1.out⟩, HB1⟩
      case measure => simp [intOf]; omega
    · have ek : L.take k = L := by rw [show k = L.length by omega, List.take_length]
      rw [ek] at HO
      go_wp2
      go_ret
      exact ⟨_, rfl, HO.out, HB.out⟩
theorem pls_mem {pl : Int} : ∀ (l : List FileD) (i : Int) (p : PlD), p ∈ pls pl l i → ∃ k n : Nat, k < l.length ∧ n < cN (l.getD k f0).2.1 pl ∧ p = mkP (i + k) n pl (l.getD k f0).2.1
  | [], _, p, h => by cases h
  | f :: l, i, p, h => by
    rcases List.mem_append.1 h with h | h
    · obtain ⟨n, hn, rfl⟩ := List.mem_map.1 h
      exact ⟨0, n, by simp, by simpa using hn, by simp⟩
    · obtain ⟨k, n, hk, hn, rfl⟩ := pls_mem l (i + 1) p h
      exact ⟨k + 1, n, by simpa using hk, by simpa using hn, by rw [List.getD_cons_succ]; congr 1; omega⟩
theorem inD_of {files : List Src} {m : MetaD} {is : List Nat} (hf : cfault m = 0) (hm : mt files m = some is) : ∀ p ∈ pls m.2.1 m.2.2.1 0, InD (dat files is) p := by
  intro p hp
  obtain ⟨hpl, _, hn, hL, _, _⟩ := cfault_ok hf
  obtain ⟨k, n, hk, hnc, rfl⟩ := pls_mem _ _ _ hp
  have g := hL.get hk
  obtain ⟨_, h5, h6⟩ := mkP_eq (0 + (k : Int)) hpl g hnc
  unfold mt at hm
  split at hm
  · have hg := (mAll_get files _ is hm k hk).2
    have hlen := mAll_len files _ is hm
    have hd : (dat files is).getD k [] = (files.getD (is.getD k 0) s0).f1 := by
      have hki : k < is.length := by omega
      unfold dat
      simp [List.getD_eq_getElem?_getD, hki]
    have hdl : (dat files is).length = m.2.2.1.length := by unfold dat; rw [List.length_map, hlen]
    have hk0 : (0 + (k : Int)).toNat = k := by omega
    unfold mkP
    refine ⟨by simp only; omega, by simp only; omega, by simp only; omega, ?_, ?_, ?_⟩
    · simp only
      split <;> omega
    · simp only
      rw [hk0, hd, hg]
      split <;> omega
    · simp only
      rw [hk0, hd]
      omega
  · cases hm
/-- Slice. -/
def sliceR (files : List Src) (m : MetaD) : List (List Int) × Int :=
  if cfault m = 0 then (match mt files m with | some is => ((pls m.2.1 m.2.2.1 0).map (cutD (dat files is)), 0) | none => ([], 94)) else ([], cfault m)
theorem rd_of {w : World} {base : Nat} {ok : Nat → Prop} {v : Value} {xs : List (List Int)} (h : KDt.R 103 w base ok v xs) : ∃ A c, v = .slice A xs.length c ∧ xs.length ≤ c ∧ KDt.C w A xs.length xs := Kd.R_reads h
set_option maxHeartbeats 4000000 in
set_option maxRecDepth 100000 in
theorem Slice_any (m : MetaD) (cs : List Value) (A : Option Addr) (c : Nat) (files : List Src) (w : World) (hK : KMeta.K w m cs) (hG : GMeta m) (hr : KSrc.C w A files.length files) (hc : files.length ≤ c) (hlen : files.length * 48 ≤ 140737488351232) :
    Calls Try.prog 38 #[.agg cs.toArray, .slice A files.length c] w fun e w' => ∃ A' c', e = .returned (.tuple #[.slice A' (sliceR files m).1.length c', .int .i64 (sliceR files m).2]) ∧ (sliceR files m).1.length ≤ c' ∧ KDt.C w' A' (sliceR files m).1.length (sliceR files m).1 ∧ Below w.heap.size w w' := by
  have HX := Aside0.mk (Bx.first w hK)
  have HR := Aside0.mk hr
  have HFA := Lib.hid (fun W (h : KMeta.K W m cs) => fault_any m cs W h hG)
  have HMA := Lib.hid (fun W (h : KMeta.K W m cs) (h' : KSrc.C W A files.length files) => match_any m cs A c files W h hG h' hc hlen)
  have HPA := Lib.hid (fun (h0 : cfault m = 0) W (h : KMeta.K W m cs) => cPlaces_any m cs W h hG h0)
  have E0 : Hid (sliceR files m = if cfault m = 0 then (match mt files m with | some is => ((pls m.2.1 m.2.2.1 0).map (cutD (dat files is)), 0) | none => ([], 94)) else ([], cfault m)) := Lib.hid rfl
  have HIN := Lib.hid (fun (h0 : cfault m = 0) is (h1 : mt files m = some is) => inD_of h0 h1)
  have HMX := Lib.hid (fun (h0 : cfault m = 0) => (cfault_ok h0).2.2.2.2.2)
  clear hK hG hr
  go_enter Try.func38, Try.ntmps38
  go_wp2_with ((with_reducible refine Fl.wpList_load rfl 46 (.tmp 2) rfl (⟨w.heap.size, 0, none⟩) ?lx (cs) _ ?lc Try.underlying46 rfl ?li ?_); (case lx => rfl); (case lc => exact HX.out.load); (case li => exact HX.out.info))
  go_at_call 53
  refine (HFA.out _ HX.out.k).mono ?_
  rintro e w1 ⟨rfl, hb1⟩
  replace HX := Aside0.mk (HX.out.below hb1)
  clear hb1 HFA
  generalize hfe : cfault m = fe at *
  by_cases h0 : fe = 0
  · subst h0
    have E1 := Lib.hid (E0.out.trans (if_pos rfl))
    have HPL := Lib.hid (HPA.out rfl)
    have HIN2 := Lib.hid (HIN.out rfl)
    have HMX2 := Lib.hid (HMX.out rfl)
    clear E0 hfe HPA HIN HMX
    go_wp2_with ((with_reducible refine Fl.wpList_load rfl 46 (.tmp 2) rfl (⟨w.heap.size, 0, none⟩) ?lx (cs) _ ?lc Try.underlying46 rfl ?li ?_); (case lx => rfl); (case lc => exact HX.out.load); (case li => exact HX.out.info))
    go_at_call 69
    refine (HMA.out _ HX.out.k (Kd.C_below HR.out HX.out.bel)).mono ?_
    rintro e w2 ⟨A2, c2, rfl, hC, hb2⟩
    replace HX := Aside0.mk (HX.out.below hb2)
    have HD : Hid (mtD files m = match mt files m with | some is => dat files is | none => []) := Lib.hid rfl
    have HCD := Aside0.mk hC
    clear hb2 HMA hC
    cases hmt : mt files m with
    | none =>
      rw [hmt] at E1 HD
      replace E1 : Hid (sliceR files m = ([], 94)) := E1
      clear hmt HD
      go_wp2
      go_ret2
      exact ⟨none, 0, by rw [E1.out]; rfl, by rw [E1.out]; exact Nat.le_refl _, by rw [E1.out]; exact Kd.C_nil _ _, below_step HX.out.bel (below_alloc (Below.refl _ _) _)⟩
    | some is =>
      have HI := Lib.hid (HIN2.out is hmt)
      rw [hmt] at E1 HD
      replace E1 : Hid (sliceR files m = ((pls m.2.1 m.2.2.1 0).map (cutD (dat files is)), 0)) := E1
      replace HD : Hid (mtD files m = dat files is) := HD
      rw [HD.out] at HCD ⊢
      generalize dat files is = D at *
      have hmf : ∀ (fn : Fn) (first cap : Array Value) (w : World), (Instr.makeFunc fn first cap).run Try.prog w = .ok (.func fn first cap) w := fun _ _ _ _ => rfl
      have HX0 := Lib.hid (HX.out.alloc_ (.cells #[.slice A2 D.length c2] 59))
      have HC0 := Lib.hid (Kd.C_alloc HCD.out (.cells #[.slice A2 D.length c2] 59))
      have HB0 := Lib.hid (heap_alloc_new w2 (.cells #[.slice A2 D.length c2] 59))
      clear hmt HD HIN2 HX HCD
      go_upto_region 7 with fail
      obtain ⟨W3, h3⟩ : ∃ W, W = w2.alloc (.cells #[.slice A2 D.length c2] 59) := ⟨_, rfl⟩
      have HX := Aside0.mk (HX0.out _ h3)
      rw [← h3] at HC0 HB0 ⊢
      have HCD := Aside0.mk HC0.out
      have HBX := Aside0.mk HB0.out
      clear h3 HX0 HC0 HB0
      generalize w2.heap.size = gd at *
      go_wp2_with ((with_reducible refine Fl.wpList_load rfl 46 (.tmp 2) rfl (⟨w.heap.size, 0, none⟩) ?lx (cs) _ ?lc Try.underlying46 rfl ?li ?_); (case lx => rfl); (case lc => exact HX.out.load); (case li => exact HX.out.info))
      go_at_call 59
      refine (HPL.out _ HX.out.k).mono ?_
      rintro e w4 ⟨A4, c4, rfl, hC4, hb4⟩
      replace HX := Aside0.mk (HX.out.below hb4)
      replace HCD := Aside0.mk (Kd.C_below HCD.out hb4)
      replace HBX := Aside0.mk (blk_below HBX.out hb4)
      have HC4 := Aside0.mk hC4
      clear hb4 hC4 HPL
      generalize pls m.2.1 m.2.2.1 0 = L at *
      go_wp2_with fail
      go_at_call 70
      refine (turnP_any L A4 c4 D A2 c2 gd w4 HC4.out HMX2.out HI.out HBX.out HCD.out).mono ?_
      rintro e w5 ⟨v, rfl, hv, hb5⟩
      obtain ⟨A5, c5, rfl, hc5, hC5⟩ := rd_of hv
      have HC5 := Aside0.mk hC5
      have HC5L := Lib.hid hc5
      have HB5 := Aside0.mk (below_step HX.out.bel hb5)
      clear hv hb5 hc5 hC5 hmf
      go_wp2
      go_ret2
      exact ⟨A5, c5, by rw [E1.out]; show _ = Ending.returned (.tuple #[.slice A5 (L.map (cutD D)).length c5, .int .i64 0]); rw [List.length_map]; rfl, by rw [E1.out]; exact HC5L.out, by rw [E1.out]; exact HC5.out, HB5.out⟩
  · have E1 := Lib.hid (E0.out.trans (if_neg h0))
    have d2 : (fe == 0) = false := by simp [h0]
    have d3 : (fe != 0) = true := by simp [h0]
    go_wp2
    go_ret2
    exact ⟨none, 0, by rw [E1.out]; rfl, by rw [E1.out]; exact Nat.le_refl _, by rw [E1.out]; exact Kd.C_nil _ _, HX.out.bel⟩
end Cr
end Go.Proofs.Ytjeeakhgjcbhaaa
set_option linter.unusedVariables false
set_option linter.unusedSimpArgs false
namespace Go.Proofs.Ytjeeakhgjcbhaaa
open Go.RowKit Go.Proofs.YtjeeakhgjcbhaaaW.PrintWords Go.Proofs.YtjeeakhgjcbhaaaW Go.Proofs.YtjeeakhgjcbhaaaW.PrintMore
namespace Cr
open Wd Vl Mt Sa PCreateSlices
theorem samePath_go (xs ys : List ByteArray) (hl : xs.length = ys.length) (hm : xs.length ≤ 140737488351232) : ∀ (d k : Nat) (i : Nat), xs.length - i = d → i ≤ xs.length → d < k → xs.take i = ys.take i → torrentref9_samePath.l0 k xs ys (i : Int) = some (decide (xs = ys))
  | 0, k, i, hd, hi, hk, ht => by
    obtain ⟨k, rfl⟩ : ∃ m, k = m + 1 := ⟨k - 1, by omega⟩
    have e : xs = ys := by rwa [show i = xs.length by omega, List.take_length, hl, List.take_length] at ht
    simp only [torrentref9_samePath.l0]
    rw [if_neg (by omega), decide_eq_true e]
  | d + 1, k, i, hd, hi, hk, ht => by
    obtain ⟨k, rfl⟩ : ∃ m, k = m + 1 := ⟨k - 1, by omega⟩
    have h1 : i < xs.length := by omega
    have h2 : i < ys.length := by omega
    have ex : rdOf ByteArray.empty xs (i : Int) = xs[i] := by simp [rdOf, h1]
    have ey : rdOf ByteArray.empty ys (i : Int) = ys[i] := by simp [rdOf, h2]
    simp only [torrentref9_samePath.l0]
    rw [if_pos (by omega), if_pos (by omega), if_pos (by omega), ex, ey]
    by_cases h : xs[i].toList = ys[i].toList
    · rw [if_pos h, show wrap64 ((i : Int) + 1) = ((i + 1 : Nat) : Int) from (w64 (by omega) (by omega)).trans (by omega)]
      refine samePath_go xs ys hl hm d k (i + 1) (by omega) (by omega) (by omega) ?_
      rw [List.take_succ_eq_append_getElem h1, List.take_succ_eq_append_getElem h2, ht, toList_inj h]
    · rw [if_neg h, decide_eq_false (fun e => h (by simp only [e]))]
theorem samePath_val (xs ys : List ByteArray) (hm : xs.length ≤ 140737488351232) : torrentref9_samePath.f (xs.length + 1) xs ys = some (decide (xs = ys)) := by
  unfold torrentref9_samePath.f
  by_cases h : xs.length = ys.length
  · rw [if_pos (by omega)]
    exact samePath_go xs ys h hm xs.length (xs.length + 1) 0 (by omega) (by omega) (by omega) rfl
  · rw [if_neg (by omega), decide_eq_false (fun e => h (by rw [e]))]
theorem samePath_any (A0 : Option Addr) (c0 : Nat) (xs : List ByteArray) (A1 : Option Addr) (c1 : Nat) (ys : List ByteArray) (w : World) (hx : Kd.string.C w A0 xs.length xs) (hc0 : xs.length ≤ c0) (hy : Kd.string.C w A1 ys.length ys) (hc1 : ys.length ≤ c1) (hm : xs.length ≤ 140737488351232) :
    Calls Try.prog 91 #[.slice A0 xs.length c0, .slice A1 ys.length c1] w fun e w' => e = .returned (.bool (decide (xs = ys))) ∧ Below w.heap.size w w' :=
  (torrentref9_samePath.calls _ A0 c0 xs A1 c1 ys _ w hx hc0 hy hc1 (samePath_val xs ys hm)).mono fun e w' ⟨he, q, hq⟩ => ⟨he, by subst hq; exact below_drewN (Below.refl _ _) q⟩
theorem lastIx_lt (files : List Src) (f : FileD) : ∀ k, k ≤ files.length → 0 < cntIx files f k → lastIx files f k < k
  | 0, _, h => by simp [cntIx] at h
  | k + 1, hk, h => by
    unfold lastIx
    rw [cntIx_succ files f k (by omega)] at h
    by_cases he : pEq f (files.getD k s0) = true
    · rw [if_pos he]; omega
    · rw [if_neg he] at h ⊢
      have := lastIx_lt files f k (by omega) (by omega)
      omega
theorem cntIx_le (files : List Src) (f : FileD) (k : Nat) : cntIx files f k ≤ k := by
  unfold cntIx
  exact Nat.le_trans (List.length_filter_le _ _) (by rw [List.length_take]; omega)
def mtI (files : List Src) (m : MetaD) : List Int := match mt files m with | some is => is.map Int.ofNat | none => []
theorem infoInt : (Try.prog.info? 3).map (fun i => (i.zero, i.size, i.bytes)) = some (some (.int .i64 0), 1, 8) := by kernel_rfl
theorem lastIx_succ (files : List Src) (f : FileD) (k : Nat) : lastIx files f (k + 1) = if pEq f (files.getD k s0) = true then k else lastIx files f k := rfl
set_option maxHeartbeats 8000000 in
set_option maxRecDepth 100000 in
theorem matched_any (m : MetaD) (cs : List Value) (A : Option Addr) (c : Nat) (files : List Src) (w : World) (hK : KMeta.K w m cs) (hG : GMeta m) (hr : KSrc.C w A files.length files) (hc : files.length ≤ c) (hlen : files.length * 48 ≤ 140737488351232) (hpl : ∀ s ∈ files, s.f0.length ≤ 140737488351232) :
    Calls Try.prog 73 #[.agg cs.toArray, .slice A files.length c] w fun e w' => ∃ A' c', e = .returned (.tuple #[.slice A' (mtI files m).length c', .bool (mt files m).isSome]) ∧ (Kd.int .i64).C w' A' (mtI files m).length (mtI files m) ∧ Below w.heap.size w w' := by
  have HX := Aside0.mk (Bx.first w hK)
  have HK := Aside0.mk hK
  obtain ⟨AF, cF, AL, cL, AI, cI, AT, cT, e0, hF, _⟩ := meta_open hK
  have q1 : m.2.2.1.length * 88 ≤ 140737488351232 := hG.2.1.1
  have HF := Aside0.mk hF
  have HR := Aside0.mk hr
  have HPL := Lib.hid hpl
  have HC2 : Hid (∀ (g : Nat) (W : World), Bx w m g cs W → W.cell? ⟨g, 2, none⟩ = some (.slice AF m.2.2.1.length cF)) := Lib.hid fun g W h => h.load 2 _ (by rw [e0]; rfl)
  clear hF hK hG e0 hr hpl
  have hx2 := HC2.out _ _ HX.out
  by_cases hl : files.length = m.2.2.1.length
  · have b1 : ((files.length : Int) == (m.2.2.1.length : Int)) = true := by simp [hl]
    have b2 : ((files.length : Int) != (m.2.2.1.length : Int)) = false := by simp [hl]
    have b3 : (files.length == m.2.2.1.length) = true := by simp [hl]
    have EM : Hid (mt files m = mAll files m.2.2.1) := Lib.hid (by unfold mt; rw [if_pos hl])
    clear hl
    go_enter Try.func73, Try.ntmps73
    go_wp2
    go_loopw [6, 7] (fun v i wz => ∃ (k : Nat) (is : List Nat), k ≤ m.2.2.1.length ∧ i = .int .i64 k ∧ Hid (mAll files (m.2.2.1.take k) = some is) ∧ Aside0 ((Kd.int .i64).R 3 wz w.heap.size (fun _ => True) v (is.map Int.ofNat)) ∧ Aside0 (Bx w m w.heap.size cs wz)) (fun v i _ => m.2.2.1.length - (intOf i).toNat)
    case atStart => exact ⟨0, [], by omega, rfl, Lib.hid rfl, ⟨Kd.R_nil _ _ _ _ _⟩, HX⟩
    case round =>
      clear HX hx2
      obtain ⟨k, is, hk, rfl, HM, HO, HX⟩ := hrel
      have hx2 := HC2.out _ _ HX.out
      by_cases hlt : k < m.2.2.1.length
      · have HT : Hid (m.2.2.1.take (k + 1) = m.2.2.1.take k ++ [m.2.2.1.getD k f0]) := Lib.hid (by rw [List.take_succ_eq_append_getElem hlt, List.getD_eq_getElem?_getD, List.getElem?_eq_getElem hlt]; rfl)
        have HFL := Lib.hid (mAll_fail files m.2.2.1 k hlt)
        have HSN := Lib.hid (mAll_snoc files (m.2.2.1.take k) (m.2.2.1.getD k f0) is HM.out)
        rw [← HT.out] at HSN
        obtain ⟨fad, fcs, e0, hl35, hfk, hcs⟩ := at_file HF.out k hlt
        have E0 := Lib.hid e0
        subst e0
        change KFile.K w (m.2.2.1.getD k f0) fcs at hfk
        generalize m.2.2.1.getD k f0 = f at *
        obtain ⟨P, p, MM, q, ef, hcp, _, hP, _⟩ := file_open hfk
        have HP := Aside0.mk hP
        have HCP := Lib.hid hcp
        have HF0 : Hid (∀ wz, Below w.heap.size w wz → wz.cell? (fad.add (k * 35)) = some (.slice P f.1.length p)) := Lib.hid fun wz h => cell_stay h (by have := hcs 0 (.slice P f.1.length p) (by rw [ef]; rfl); rwa [Nat.add_zero] at this)
        have HF1 : Hid (∀ wz, Below w.heap.size w wz → wz.cell? ⟨(fad.add (k * 35)).block, (fad.add (k * 35)).off + 1, none⟩ = some (.int .i64 f.2.1)) := Lib.hid fun wz h => cell_stay h (Fl.fcell 1 (by omega) (hcs 1 _ (f1_of hfk)))
        clear hfk hcs hl35 ef hP hcp
        go_wp2
        go_loopw [8, 9, 10] (fun n a i wz => ∃ j : Nat, j ≤ files.length ∧ i = .int .i64 j ∧ n = .int .i64 (cntIx files f j : Nat) ∧ a = .int .i64 (lastIx files f j : Nat) ∧ Aside0 ((Kd.int .i64).R 3 wz w.heap.size (fun _ => True) u6 (is.map Int.ofNat)) ∧ Aside0 (Bx w m w.heap.size cs wz)) (fun n a i _ => files.length - (intOf i).toNat)
        case atStart => exact ⟨0, by omega, rfl, rfl, rfl, HO, HX⟩
        case round =>
          clear HO HX hx2
          obtain ⟨j, hj, rfl, rfl, rfl, HO, HX⟩ := hrel
          have hx2 := HC2.out _ _ HX.out
          by_cases hlj : j < files.length
          · obtain ⟨ad, scs, ea, _, hKs, hscs⟩ := Kd.C_get HR.out s0 (j : Int) (by omega) (by omega)
            have hsm := HPL.out (files.getD j s0) (nth_mem s0 files j hlj)
            have HCN := Lib.hid (cntIx_succ files f j hlj)
            have HLS := Lib.hid (lastIx_succ files f j)
            have hcle := cntIx_le files f j
            rw [Int.toNat_natCast] at hKs hscs
            change ∀ q u, scs[q]? = some u → w.cell? (ad.add (j * 2 + q)) = some u at hscs
            subst ea
            generalize files.getD j s0 = s at *
            obtain ⟨A0, c0, A1, c1, rfl, l0, g0, l1, g1⟩ := k106_open hKs
            have hs0 : wr.cell? (ad.add (j * 2)) = some (.slice A0 s.f0.length c0) := cell_stay HX.out.bel (by have := hscs 0 _ rfl; rwa [Nat.add_zero] at this)
            have hf0 := HF0.out wr HX.out.bel
            have HSP : Hid (∀ W, Below wr.heap.size wr W → Calls Try.prog 91 #[.slice A0 s.f0.length c0, .slice P f.1.length p] W fun e w' => e = .returned (.bool (pEq f s)) ∧ Below W.heap.size W w') := Lib.hid fun W hb => samePath_any A0 c0 s.f0 P p f.1 W (Kd.C_below g0 (below_step HX.out.bel hb)) l0 (Kd.C_below HP.out (below_step HX.out.bel hb)) HCP.out hsm
            have hlj' : (j : Int) < (files.length : Int) := by omega
            have hlt' : (k : Int) < (m.2.2.1.length : Int) := by omega
            clear hKs hscs l0 g0 l1 g1
            go_upto_region 12 with fail
            refine PrintLast.start_ (n := 12) (S := fun w' => Below wr.heap.size wr w') (ds := []) #[false, false, false, false, false, false, false, false, false, false, false, false] (by kernel_rfl) rfl rfl (below_drew1 (Below.refl _ _)) (fun hHeld => ?_)
            generalize wr.drew = W0 at *
            refine PrintLast.pure_ (i := 0) (N := some 30) (v := ?_) (a' := ?_) #[true, false, false, false, false, false, false, false, false, false, false, false] rfl rfl (by kernel_rfl) (fun _ _ _ h => h) (Or.inl ⟨by rfl, ?_⟩) ?_ ?_
            rotate_left
            · intro w'
              go_simp
              with_reducible rfl
            rotate_left
            · simp only [Act.put, List.setIfInBounds_toArray, List.set_cons_zero, List.set_cons_succ]
              rfl
            refine PrintLast.pure_ (i := 1) (N := some 31) (v := ?_) (a' := ?_) #[true, true, false, false, false, false, false, false, false, false, false, false] rfl rfl (by kernel_rfl) (fun _ _ _ h => h) (Or.inl ⟨by rfl, ?_⟩) ?_ ?_
            rotate_left
            · intro w'
              go_simp
              with_reducible rfl
            rotate_left
            · simp only [Act.put, List.setIfInBounds_toArray, List.set_cons_zero, List.set_cons_succ]
              rfl
            refine PrintLast.pure_ (i := 2) (N := some 32) (v := ?_) (a' := ?_) #[true, true, true, false, false, false, false, false, false, false, false, false] rfl rfl (by kernel_rfl) (fun _ _ _ h => h) (Or.inl ⟨by rfl, ?_⟩) ?_ ?_
            rotate_left
            · intro w'
              go_simp
              with_reducible rfl
            rotate_left
            · simp only [Act.put, List.setIfInBounds_toArray, List.set_cons_zero, List.set_cons_succ]
              rfl
            refine PrintLast.pure_ (i := 3) (N := some 33) (v := ?_) (a' := ?_) #[true, true, true, true, false, false, false, false, false, false, false, false] rfl rfl (by kernel_rfl) (fun _ _ _ h => h) (Or.inl ⟨by rfl, ?_⟩) ?_ ?_
            rotate_left
            · intro w'
              go_simp
              with_reducible rfl
            rotate_left
            · simp only [Act.put, List.setIfInBounds_toArray, List.set_cons_zero, List.set_cons_succ]
              rfl
            refine PrintLast.take_ (i := 4) (N := some 34) (v := ?_) (a' := ?_) #[true, true, true, true, true, false, false, false, false, false, false, false] rfl rfl (by kernel_rfl) (fun _ _ _ h => h) (Or.inl ⟨by rfl, ?_⟩) hHeld ?_ ?_
            rotate_left
            · intro w' s0
              (have g1 := cell_stay s0 hs0; go_simp; with_reducible rfl)
            rotate_left
            · simp only [Act.put, List.setIfInBounds_toArray, List.set_cons_zero, List.set_cons_succ]
              rfl
            refine PrintLast.pure_ (i := 5) (N := some 35) (v := ?_) (a' := ?_) #[true, true, true, true, true, true, false, false, false, false, false, false] rfl rfl (by kernel_rfl) (fun _ _ _ h => h) (Or.inl ⟨by rfl, ?_⟩) ?_ ?_
            rotate_left
            · intro w'
              go_simp
              with_reducible rfl
            rotate_left
            · simp only [Act.put, List.setIfInBounds_toArray, List.set_cons_zero, List.set_cons_succ]
              rfl
            refine PrintLast.take_ (i := 6) (N := some 36) (v := ?_) (a' := ?_) #[true, true, true, true, true, true, true, false, false, false, false, false] rfl rfl (by kernel_rfl) (fun _ _ _ h => h) (Or.inl ⟨by rfl, ?_⟩) hHeld ?_ ?_
            rotate_left
            · intro w' s0
              (have g1 := cell_stay s0 hx2; go_simp; with_reducible rfl)
            rotate_left
            · simp only [Act.put, List.setIfInBounds_toArray, List.set_cons_zero, List.set_cons_succ]
              rfl
            refine PrintLast.pure_ (i := 7) (N := some 37) (v := ?_) (a' := ?_) #[true, true, true, true, true, true, true, true, false, false, false, false] rfl rfl (by kernel_rfl) (fun _ _ _ h => h) (Or.inl ⟨by rfl, ?_⟩) ?_ ?_
            rotate_left
            · intro w'
              go_simp
              with_reducible rfl
            rotate_left
            · simp only [Act.put, List.setIfInBounds_toArray, List.set_cons_zero, List.set_cons_succ]
              rfl
            refine PrintLast.pure_ (i := 8) (N := some 38) (v := ?_) (a' := ?_) #[true, true, true, true, true, true, true, true, true, false, false, false] rfl rfl (by kernel_rfl) (fun _ _ _ h => h) (Or.inl ⟨by rfl, ?_⟩) ?_ ?_
            rotate_left
            · intro w'
              go_simp
              with_reducible rfl
            rotate_left
            · simp only [Act.put, List.setIfInBounds_toArray, List.set_cons_zero, List.set_cons_succ]
              rfl
            refine PrintLast.pure_ (i := 9) (N := some 39) (v := ?_) (a' := ?_) #[true, true, true, true, true, true, true, true, true, true, false, false] rfl rfl (by kernel_rfl) (fun _ _ _ h => h) (Or.inl ⟨by rfl, ?_⟩) ?_ ?_
            rotate_left
            · intro w'
              go_simp
              with_reducible rfl
            rotate_left
            · simp only [Act.put, List.setIfInBounds_toArray, List.set_cons_zero, List.set_cons_succ]
              rfl
            refine PrintLast.take_ (i := 10) (N := some 40) (v := ?_) (a' := ?_) #[true, true, true, true, true, true, true, true, true, true, true, false] rfl rfl (by kernel_rfl) (fun _ _ _ h => h) (Or.inl ⟨by rfl, ?_⟩) hHeld ?_ ?_
            rotate_left
            · intro w' s0
              (have g1 := cell_stay s0 hf0; go_simp; with_reducible rfl)
            rotate_left
            · simp only [Act.put, List.setIfInBounds_toArray, List.set_cons_zero, List.set_cons_succ]
              rfl
            refine PrintLast.one_ (i := 11) (N := some 41) #[true, true, true, true, true, true, true, true, true, true, true, true] rfl rfl (by kernel_rfl) (by decide) (fun K hK => ?_)
            refine PrintLast.goes_ Try.func91 (by kernel_rfl) rfl #[.slice A0 s.f0.length c0, .slice P f.1.length p] (by rfl) rfl rfl (by simp only [List.map_toArray, List.map_cons, List.map_nil]; rfl) ?_
            refine (HSP.out _ hHeld).mono ?_
            rintro e W1 ⟨rfl, hst⟩
            have hst1 := below_step hHeld hst
            refine ⟨_, rfl, ?_⟩
            refine hK.out _ _ hst1 (fun hHeld => ?_)
            clear hK K
            refine PrintLast.norm_ (a' := ?_) ?_ ?_
            rotate_left
            · show Act.put _ (some 41) _ = _
              simp only [Act.put, List.setIfInBounds_toArray, List.set_cons_zero, List.set_cons_succ]
              rfl
            clear hst
            refine PrintLast.done_ (by kernel_rfl) ?_
            replace HX := Aside0.mk (HX.out.below hHeld)
            replace HO := Aside0.mk (Kd.R_below HO.out hHeld)
            clear hHeld hst1 HSP hs0 hf0
            cases he : pEq f s with
            | true =>
              rw [he] at HCN HLS
              go_wp2
              go_roundw
              case rel => exact ⟨j + 1, by omega, by go_num, by rw [HCN.out, if_pos rfl]; go_num, by rw [HLS.out, if_pos rfl], HO, HX⟩
              case measure => simp [intOf]; omega
            | false =>
              rw [he] at HCN HLS
              go_wp2
              go_roundw
              case rel => exact ⟨j + 1, by omega, by go_num, by rw [HCN.out, if_neg Bool.false_ne_true]; rfl, by rw [HLS.out, if_neg Bool.false_ne_true], HO, HX⟩
              case measure => simp [intOf]; omega
          · have ej : j = files.length := by omega
            have HMR := Lib.hid (matchAt_ref files f)
            have hLT := fun h => lastIx_lt files f files.length (Nat.le_refl _) h
            rw [ej]
            clear hj ej hlj
            generalize hcn : cntIx files f files.length = cn at *
            generalize lastIx files f files.length = at_ at *
            clear hcn
            by_cases h1 : cn = 1
            · have hat : at_ < files.length := hLT (by omega)
              have hat' : (at_ : Int) < (files.length : Int) := by omega
              obtain ⟨ad, scs, ea, _, hKs, hscs⟩ := Kd.C_get HR.out s0 (at_ : Int) (by omega) (by omega)
              rw [Int.toNat_natCast] at hKs hscs
              change ∀ q u, scs[q]? = some u → w.cell? (ad.add (at_ * 2 + q)) = some u at hscs
              subst ea
              have HLI : Hid (is.length = k) := Lib.hid (by have := mAll_len files _ _ HM.out; rw [List.length_take] at this; omega)
              generalize files.getD at_ s0 = s at *
              obtain ⟨A0, c0, A1, c1, rfl, l0, g0, l1, g1⟩ := k106_open hKs
              have hd1 : wr.cell? ⟨(ad.add (at_ * 2)).block, (ad.add (at_ * 2)).off + 1, none⟩ = some (.slice A1 s.f1.length c1) := cell_stay HX.out.bel (Fl.fcell 1 (by omega) (hscs 1 _ rfl))
              have hf1 := HF1.out wr HX.out.bel
              have hlt' : (k : Int) < (m.2.2.1.length : Int) := by omega
              have n1 : ((cn : Int) == 1) = true := by simp [h1]
              have n2 : ((cn : Int) != 1) = false := by simp [h1]
              clear hKs hscs l0 g0 l1 g1 hLT
              by_cases hd : (s.f1.length : Int) = f.2.1
              · have dd : ((s.f1.length : Int) == f.2.1) = true := beq_iff_eq.2 hd
                have dd2 : ((s.f1.length : Int) != f.2.1) = false := by simp [hd]
                have EA2 : Hid (matchAt files f = some at_) := Lib.hid (HMR.out.trans (if_pos ⟨h1, hd⟩))
                have HM2 : Hid (mAll files (m.2.2.1.take (k + 1)) = some (is ++ [at_])) := Lib.hid (by rw [HSN.out, EA2.out]; rfl)
                have HDS : Hid ((is ++ [at_]).map Int.ofNat = is.map Int.ofNat ++ [(at_ : Int)]) := Lib.hid (by rw [List.map_append]; rfl)
                clear HSN HFL hd EA2 HMR h1
                go_upto_region 15 with fail
                refine PrintLast.start_ (n := 17) (S := fun w' => Below wr.heap.size wr w') (ds := []) #[false, false, false, false, false, false, false, false, false, false, false, false, false, false, false, false, false] (by kernel_rfl) rfl rfl (below_drew1 (Below.refl _ _)) (fun hHeld => ?_)
                generalize wr.drew = W0 at *
                refine PrintLast.pure_ (i := 0) (N := some 45) (v := ?_) (a' := ?_) #[true, false, false, false, false, false, false, false, false, false, false, false, false, false, false, false, false] rfl rfl (by kernel_rfl) (fun _ _ _ h => h) (Or.inl ⟨by rfl, ?_⟩) ?_ ?_
                rotate_left
                · intro w'
                  go_simp
                  with_reducible rfl
                rotate_left
                · simp only [Act.put, List.setIfInBounds_toArray, List.set_cons_zero, List.set_cons_succ]
                  rfl
                refine PrintLast.pure_ (i := 1) (N := some 46) (v := ?_) (a' := ?_) #[true, true, false, false, false, false, false, false, false, false, false, false, false, false, false, false, false] rfl rfl (by kernel_rfl) (fun _ _ _ h => h) (Or.inl ⟨by rfl, ?_⟩) ?_ ?_
                rotate_left
                · intro w'
                  go_simp
                  with_reducible rfl
                rotate_left
                · simp only [Act.put, List.setIfInBounds_toArray, List.set_cons_zero, List.set_cons_succ]
                  rfl
                refine PrintLast.pure_ (i := 2) (N := some 47) (v := ?_) (a' := ?_) #[true, true, true, false, false, false, false, false, false, false, false, false, false, false, false, false, false] rfl rfl (by kernel_rfl) (fun _ _ _ h => h) (Or.inl ⟨by rfl, ?_⟩) ?_ ?_
                rotate_left
                · intro w'
                  go_simp
                  with_reducible rfl
                rotate_left
                · simp only [Act.put, List.setIfInBounds_toArray, List.set_cons_zero, List.set_cons_succ]
                  rfl
                refine PrintLast.pure_ (i := 3) (N := some 48) (v := ?_) (a' := ?_) #[true, true, true, true, false, false, false, false, false, false, false, false, false, false, false, false, false] rfl rfl (by kernel_rfl) (fun _ _ _ h => h) (Or.inl ⟨by rfl, ?_⟩) ?_ ?_
                rotate_left
                · intro w'
                  go_simp
                  with_reducible rfl
                rotate_left
                · simp only [Act.put, List.setIfInBounds_toArray, List.set_cons_zero, List.set_cons_succ]
                  rfl
                refine PrintLast.pure_ (i := 4) (N := some 49) (v := ?_) (a' := ?_) #[true, true, true, true, true, false, false, false, false, false, false, false, false, false, false, false, false] rfl rfl (by kernel_rfl) (fun _ _ _ h => h) (Or.inl ⟨by rfl, ?_⟩) ?_ ?_
                rotate_left
                · intro w'
                  go_simp
                  with_reducible rfl
                rotate_left
                · simp only [Act.put, List.setIfInBounds_toArray, List.set_cons_zero, List.set_cons_succ]
                  rfl
                refine PrintLast.pure_ (i := 5) (N := some 50) (v := ?_) (a' := ?_) #[true, true, true, true, true, true, false, false, false, false, false, false, false, false, false, false, false] rfl rfl (by kernel_rfl) (fun _ _ _ h => h) (Or.inl ⟨by rfl, ?_⟩) ?_ ?_
                rotate_left
                · intro w'
                  go_simp
                  with_reducible rfl
                rotate_left
                · simp only [Act.put, List.setIfInBounds_toArray, List.set_cons_zero, List.set_cons_succ]
                  rfl
                refine PrintLast.pure_ (i := 6) (N := some 51) (v := ?_) (a' := ?_) #[true, true, true, true, true, true, true, false, false, false, false, false, false, false, false, false, false] rfl rfl (by kernel_rfl) (fun _ _ _ h => h) (Or.inl ⟨by rfl, ?_⟩) ?_ ?_
                rotate_left
                · intro w'
                  go_simp
                  with_reducible rfl
                rotate_left
                · simp only [Act.put, List.setIfInBounds_toArray, List.set_cons_zero, List.set_cons_succ]
                  rfl
                refine PrintLast.take_ (i := 7) (N := some 52) (v := ?_) (a' := ?_) #[true, true, true, true, true, true, true, true, false, false, false, false, false, false, false, false, false] rfl rfl (by kernel_rfl) (fun _ _ _ h => h) (Or.inl ⟨by rfl, ?_⟩) hHeld ?_ ?_
                rotate_left
                · intro w' s0
                  (have g1 := cell_stay s0 hd1; go_simp; with_reducible rfl)
                rotate_left
                · simp only [Act.put, List.setIfInBounds_toArray, List.set_cons_zero, List.set_cons_succ]
                  rfl
                refine PrintLast.pure_ (i := 8) (N := some 53) (v := ?_) (a' := ?_) #[true, true, true, true, true, true, true, true, true, false, false, false, false, false, false, false, false] rfl rfl (by kernel_rfl) (fun _ _ _ h => h) (Or.inl ⟨by rfl, ?_⟩) ?_ ?_
                rotate_left
                · intro w'
                  go_simp
                  with_reducible rfl
                rotate_left
                · simp only [Act.put, List.setIfInBounds_toArray, List.set_cons_zero, List.set_cons_succ]
                  rfl
                refine PrintLast.pure_ (i := 9) (N := some 54) (v := ?_) (a' := ?_) #[true, true, true, true, true, true, true, true, true, true, false, false, false, false, false, false, false] rfl rfl (by kernel_rfl) (fun _ _ _ h => h) (Or.inl ⟨by rfl, ?_⟩) ?_ ?_
                rotate_left
                · intro w'
                  go_simp
                  with_reducible rfl
                rotate_left
                · simp only [Act.put, List.setIfInBounds_toArray, List.set_cons_zero, List.set_cons_succ]
                  rfl
                refine PrintLast.take_ (i := 10) (N := some 55) (v := ?_) (a' := ?_) #[true, true, true, true, true, true, true, true, true, true, true, false, false, false, false, false, false] rfl rfl (by kernel_rfl) (fun _ _ _ h => h) (Or.inl ⟨by rfl, ?_⟩) hHeld ?_ ?_
                rotate_left
                · intro w' s0
                  (have g1 := cell_stay s0 hx2; go_simp; with_reducible rfl)
                rotate_left
                · simp only [Act.put, List.setIfInBounds_toArray, List.set_cons_zero, List.set_cons_succ]
                  rfl
                refine PrintLast.pure_ (i := 11) (N := some 56) (v := ?_) (a' := ?_) #[true, true, true, true, true, true, true, true, true, true, true, true, false, false, false, false, false] rfl rfl (by kernel_rfl) (fun _ _ _ h => h) (Or.inl ⟨by rfl, ?_⟩) ?_ ?_
                rotate_left
                · intro w'
                  go_simp
                  with_reducible rfl
                rotate_left
                · simp only [Act.put, List.setIfInBounds_toArray, List.set_cons_zero, List.set_cons_succ]
                  rfl
                refine PrintLast.pure_ (i := 12) (N := some 57) (v := ?_) (a' := ?_) #[true, true, true, true, true, true, true, true, true, true, true, true, true, false, false, false, false] rfl rfl (by kernel_rfl) (fun _ _ _ h => h) (Or.inl ⟨by rfl, ?_⟩) ?_ ?_
                rotate_left
                · intro w'
                  go_simp
                  with_reducible rfl
                rotate_left
                · simp only [Act.put, List.setIfInBounds_toArray, List.set_cons_zero, List.set_cons_succ]
                  rfl
                refine PrintLast.pure_ (i := 13) (N := some 58) (v := ?_) (a' := ?_) #[true, true, true, true, true, true, true, true, true, true, true, true, true, true, false, false, false] rfl rfl (by kernel_rfl) (fun _ _ _ h => h) (Or.inl ⟨by rfl, ?_⟩) ?_ ?_
                rotate_left
                · intro w'
                  go_simp
                  with_reducible rfl
                rotate_left
                · simp only [Act.put, List.setIfInBounds_toArray, List.set_cons_zero, List.set_cons_succ]
                  rfl
                refine PrintLast.take_ (i := 14) (N := some 59) (v := ?_) (a' := ?_) #[true, true, true, true, true, true, true, true, true, true, true, true, true, true, true, false, false] rfl rfl (by kernel_rfl) (fun _ _ _ h => h) (Or.inl ⟨by rfl, ?_⟩) hHeld ?_ ?_
                rotate_left
                · intro w' s0
                  (have g1 := cell_stay s0 hf1; go_simp; with_reducible rfl)
                rotate_left
                · simp only [Act.put, List.setIfInBounds_toArray, List.set_cons_zero, List.set_cons_succ]
                  rfl
                refine PrintLast.pure_ (i := 15) (N := some 60) (v := ?_) (a' := ?_) #[true, true, true, true, true, true, true, true, true, true, true, true, true, true, true, true, false] rfl rfl (by kernel_rfl) (fun _ _ _ h => h) (Or.inl ⟨by rfl, ?_⟩) ?_ ?_
                rotate_left
                · intro w'
                  go_simp
                  with_reducible rfl
                rotate_left
                · simp only [Act.put, List.setIfInBounds_toArray, List.set_cons_zero, List.set_cons_succ]
                  rfl
                refine PrintLast.pure_ (i := 16) (N := some 61) (v := ?_) (a' := ?_) #[true, true, true, true, true, true, true, true, true, true, true, true, true, true, true, true, true] rfl rfl (by kernel_rfl) (fun _ _ _ h => h) (Or.inl ⟨by rfl, ?_⟩) ?_ ?_
                rotate_left
                · intro w'
                  go_simp
                  with_reducible rfl
                rotate_left
                · simp only [Act.put, List.setIfInBounds_toArray, List.set_cons_zero, List.set_cons_succ]
                  rfl
                refine PrintLast.done_ (by kernel_rfl) ?_
                replace HX := Aside0.mk (HX.out.below hHeld)
                replace HO := Aside0.mk (Kd.R_below HO.out hHeld)
                have NX := Lib.hid (Kd.R_ne HO.out HX.out.bx (by decide))
                have HLEN : Hid (((is.map Int.ofNat).length + 1) * 8 ≤ 140737488351232) := Lib.hid (by rw [List.length_map, HLI.out]; omega)
                clear hHeld hd1 hf1 hx2
                go_wp2_with ((at_builtin; go_loud (refine Kd.R_append (Kd.int .i64) (w0 := w) w.heap.size rfl (.tmp 62) (.tmp 64) 119 3 (.int .i64 0) 8 rfl Try.underlying119 infoInt rfl (by decide) (by omega) u6 ((is.map Int.ofNat)) ((at_ : Int)) ([.int .i64 (at_ : Int)]) (fun _ => True) (fun _ => False) rfl rfl ?aP (fun _ h => h.elim) ?aF ?aO ?aB ?aS ?aL ?_); (case aP => exact rfl); (case aB => exact HX.out.bel); (case aF => exact (fun _ _ => trivial)); (case aO => exact HO.out); (case aS => exact HX.out.bel.size); (case aL => have := HLEN.out; omega); intro v1 wq ho hb hg hat; have HO1 := Aside0.mk ho; have HX1 := Aside0.mk (HX.out.grown hg hb NX.out (KMeta.K_below hb HK.out))))
                go_roundw
                case rel => exact ⟨k + 1, is ++ [at_], by omega, by go_num, HM2, ⟨by rw [HDS.out]; exact HO1.out⟩, HX1⟩
                case measure => simp [intOf]; omega
              · have dd : ((s.f1.length : Int) == f.2.1) = false := beq_eq_false_iff_ne.2 hd
                have dd2 : ((s.f1.length : Int) != f.2.1) = true := by simp [hd]
                have EA2 : Hid (matchAt files f = none) := Lib.hid (HMR.out.trans (if_neg (fun h => hd h.2)))
                have EN : Hid (mtI files m = []) := Lib.hid (by unfold mtI; rw [EM.out, HFL.out EA2.out])
                have EB : Hid ((mt files m).isSome = false) := Lib.hid (by rw [EM.out, HFL.out EA2.out]; rfl)
                clear HSN HFL hd EA2 HMR h1
                go_upto_region 15 with fail
                refine PrintLast.start_ (n := 17) (S := fun w' => Below wr.heap.size wr w') (ds := []) #[false, false, false, false, false, false, false, false, false, false, false, false, false, false, false, false, false] (by kernel_rfl) rfl rfl (below_drew1 (Below.refl _ _)) (fun hHeld => ?_)
                generalize wr.drew = W0 at *
                refine PrintLast.pure_ (i := 0) (N := some 45) (v := ?_) (a' := ?_) #[true, false, false, false, false, false, false, false, false, false, false, false, false, false, false, false, false] rfl rfl (by kernel_rfl) (fun _ _ _ h => h) (Or.inl ⟨by rfl, ?_⟩) ?_ ?_
                rotate_left
                · intro w'
                  go_simp
                  with_reducible rfl
                rotate_left
                · simp only [Act.put, List.setIfInBounds_toArray, List.set_cons_zero, List.set_cons_succ]
                  rfl
                refine PrintLast.pure_ (i := 1) (N := some 46) (v := ?_) (a' := ?_) #[true, true, false, false, false, false, false, false, false, false, false, false, false, false, false, false, false] rfl rfl (by kernel_rfl) (fun _ _ _ h => h) (Or.inl ⟨by rfl, ?_⟩) ?_ ?_
                rotate_left
                · intro w'
                  go_simp
                  with_reducible rfl
                rotate_left
                · simp only [Act.put, List.setIfInBounds_toArray, List.set_cons_zero, List.set_cons_succ]
                  rfl
                refine PrintLast.pure_ (i := 2) (N := some 47) (v := ?_) (a' := ?_) #[true, true, true, false, false, false, false, false, false, false, false, false, false, false, false, false, false] rfl rfl (by kernel_rfl) (fun _ _ _ h => h) (Or.inl ⟨by rfl, ?_⟩) ?_ ?_
                rotate_left
                · intro w'
                  go_simp
                  with_reducible rfl
                rotate_left
                · simp only [Act.put, List.setIfInBounds_toArray, List.set_cons_zero, List.set_cons_succ]
                  rfl
                refine PrintLast.pure_ (i := 3) (N := some 48) (v := ?_) (a' := ?_) #[true, true, true, true, false, false, false, false, false, false, false, false, false, false, false, false, false] rfl rfl (by kernel_rfl) (fun _ _ _ h => h) (Or.inl ⟨by rfl, ?_⟩) ?_ ?_
                rotate_left
                · intro w'
                  go_simp
                  with_reducible rfl
                rotate_left
                · simp only [Act.put, List.setIfInBounds_toArray, List.set_cons_zero, List.set_cons_succ]
                  rfl
                refine PrintLast.pure_ (i := 4) (N := some 49) (v := ?_) (a' := ?_) #[true, true, true, true, true, false, false, false, false, false, false, false, false, false, false, false, false] rfl rfl (by kernel_rfl) (fun _ _ _ h => h) (Or.inl ⟨by rfl, ?_⟩) ?_ ?_
                rotate_left
                · intro w'
                  go_simp
                  with_reducible rfl
                rotate_left
                · simp only [Act.put, List.setIfInBounds_toArray, List.set_cons_zero, List.set_cons_succ]
                  rfl
                refine PrintLast.pure_ (i := 5) (N := some 50) (v := ?_) (a' := ?_) #[true, true, true, true, true, true, false, false, false, false, false, false, false, false, false, false, false] rfl rfl (by kernel_rfl) (fun _ _ _ h => h) (Or.inl ⟨by rfl, ?_⟩) ?_ ?_
                rotate_left
                · intro w'
                  go_simp
                  with_reducible rfl
                rotate_left
                · simp only [Act.put, List.setIfInBounds_toArray, List.set_cons_zero, List.set_cons_succ]
                  rfl
                refine PrintLast.pure_ (i := 6) (N := some 51) (v := ?_) (a' := ?_) #[true, true, true, true, true, true, true, false, false, false, false, false, false, false, false, false, false] rfl rfl (by kernel_rfl) (fun _ _ _ h => h) (Or.inl ⟨by rfl, ?_⟩) ?_ ?_
                rotate_left
                · intro w'
                  go_simp
                  with_reducible rfl
                rotate_left
                · simp only [Act.put, List.setIfInBounds_toArray, List.set_cons_zero, List.set_cons_succ]
                  rfl
                refine PrintLast.take_ (i := 7) (N := some 52) (v := ?_) (a' := ?_) #[true, true, true, true, true, true, true, true, false, false, false, false, false, false, false, false, false] rfl rfl (by kernel_rfl) (fun _ _ _ h => h) (Or.inl ⟨by rfl, ?_⟩) hHeld ?_ ?_
                rotate_left
                · intro w' s0
                  (have g1 := cell_stay s0 hd1; go_simp; with_reducible rfl)
                rotate_left
                · simp only [Act.put, List.setIfInBounds_toArray, List.set_cons_zero, List.set_cons_succ]
                  rfl
                refine PrintLast.pure_ (i := 8) (N := some 53) (v := ?_) (a' := ?_) #[true, true, true, true, true, true, true, true, true, false, false, false, false, false, false, false, false] rfl rfl (by kernel_rfl) (fun _ _ _ h => h) (Or.inl ⟨by rfl, ?_⟩) ?_ ?_
                rotate_left
                · intro w'
                  go_simp
                  with_reducible rfl
                rotate_left
                · simp only [Act.put, List.setIfInBounds_toArray, List.set_cons_zero, List.set_cons_succ]
                  rfl
                refine PrintLast.pure_ (i := 9) (N := some 54) (v := ?_) (a' := ?_) #[true, true, true, true, true, true, true, true, true, true, false, false, false, false, false, false, false] rfl rfl (by kernel_rfl) (fun _ _ _ h => h) (Or.inl ⟨by rfl, ?_⟩) ?_ ?_
                rotate_left
                · intro w'
                  go_simp
                  with_reducible rfl
                rotate_left
                · simp only [Act.put, List.setIfInBounds_toArray, List.set_cons_zero, List.set_cons_succ]
                  rfl
                refine PrintLast.take_ (i := 10) (N := some 55) (v := ?_) (a' := ?_) #[true, true, true, true, true, true, true, true, true, true, true, false, false, false, false, false, false] rfl rfl (by kernel_rfl) (fun _ _ _ h => h) (Or.inl ⟨by rfl, ?_⟩) hHeld ?_ ?_
                rotate_left
                · intro w' s0
                  (have g1 := cell_stay s0 hx2; go_simp; with_reducible rfl)
                rotate_left
                · simp only [Act.put, List.setIfInBounds_toArray, List.set_cons_zero, List.set_cons_succ]
                  rfl
                refine PrintLast.pure_ (i := 11) (N := some 56) (v := ?_) (a' := ?_) #[true, true, true, true, true, true, true, true, true, true, true, true, false, false, false, false, false] rfl rfl (by kernel_rfl) (fun _ _ _ h => h) (Or.inl ⟨by rfl, ?_⟩) ?_ ?_
                rotate_left
                · intro w'
                  go_simp
                  with_reducible rfl
                rotate_left
                · simp only [Act.put, List.setIfInBounds_toArray, List.set_cons_zero, List.set_cons_succ]
                  rfl
                refine PrintLast.pure_ (i := 12) (N := some 57) (v := ?_) (a' := ?_) #[true, true, true, true, true, true, true, true, true, true, true, true, true, false, false, false, false] rfl rfl (by kernel_rfl) (fun _ _ _ h => h) (Or.inl ⟨by rfl, ?_⟩) ?_ ?_
                rotate_left
                · intro w'
                  go_simp
                  with_reducible rfl
                rotate_left
                · simp only [Act.put, List.setIfInBounds_toArray, List.set_cons_zero, List.set_cons_succ]
                  rfl
                refine PrintLast.pure_ (i := 13) (N := some 58) (v := ?_) (a' := ?_) #[true, true, true, true, true, true, true, true, true, true, true, true, true, true, false, false, false] rfl rfl (by kernel_rfl) (fun _ _ _ h => h) (Or.inl ⟨by rfl, ?_⟩) ?_ ?_
                rotate_left
                · intro w'
                  go_simp
                  with_reducible rfl
                rotate_left
                · simp only [Act.put, List.setIfInBounds_toArray, List.set_cons_zero, List.set_cons_succ]
                  rfl
                refine PrintLast.take_ (i := 14) (N := some 59) (v := ?_) (a' := ?_) #[true, true, true, true, true, true, true, true, true, true, true, true, true, true, true, false, false] rfl rfl (by kernel_rfl) (fun _ _ _ h => h) (Or.inl ⟨by rfl, ?_⟩) hHeld ?_ ?_
                rotate_left
                · intro w' s0
                  (have g1 := cell_stay s0 hf1; go_simp; with_reducible rfl)
                rotate_left
                · simp only [Act.put, List.setIfInBounds_toArray, List.set_cons_zero, List.set_cons_succ]
                  rfl
                refine PrintLast.pure_ (i := 15) (N := some 60) (v := ?_) (a' := ?_) #[true, true, true, true, true, true, true, true, true, true, true, true, true, true, true, true, false] rfl rfl (by kernel_rfl) (fun _ _ _ h => h) (Or.inl ⟨by rfl, ?_⟩) ?_ ?_
                rotate_left
                · intro w'
                  go_simp
                  with_reducible rfl
                rotate_left
                · simp only [Act.put, List.setIfInBounds_toArray, List.set_cons_zero, List.set_cons_succ]
                  rfl
                refine PrintLast.pure_ (i := 16) (N := some 61) (v := ?_) (a' := ?_) #[true, true, true, true, true, true, true, true, true, true, true, true, true, true, true, true, true] rfl rfl (by kernel_rfl) (fun _ _ _ h => h) (Or.inl ⟨by rfl, ?_⟩) ?_ ?_
                rotate_left
                · intro w'
                  go_simp
                  with_reducible rfl
                rotate_left
                · simp only [Act.put, List.setIfInBounds_toArray, List.set_cons_zero, List.set_cons_succ]
                  rfl
                refine PrintLast.done_ (by kernel_rfl) ?_
                have HX2 := Aside0.mk (HX.out.below hHeld)
                go_wp2
                go_ret2
                exact ⟨none, 0, by rw [EN.out, EB.out]; rfl, by rw [EN.out]; exact Kd.C_nil _ _, HX2.out.bel⟩
            · have n1 : ((cn : Int) == 1) = false := by simp; omega
              have n2 : ((cn : Int) != 1) = true := by simp; omega
              have EA2 : Hid (matchAt files f = none) := Lib.hid (HMR.out.trans (if_neg (fun h => h1 h.1)))
              have EN : Hid (mtI files m = []) := Lib.hid (by unfold mtI; rw [EM.out, HFL.out EA2.out])
              have EB : Hid ((mt files m).isSome = false) := Lib.hid (by rw [EM.out, HFL.out EA2.out]; rfl)
              clear HSN HFL EA2 HMR h1 hLT
              go_upto_region 15 with fail
              refine PrintLast.start_ (n := 17) (S := fun w' => Below wr.heap.size wr w') (ds := []) #[false, false, false, false, false, false, false, false, false, false, false, false, false, false, false, false, false] (by kernel_rfl) rfl rfl (below_drew1 (Below.refl _ _)) (fun hHeld => ?_)
              generalize wr.drew = W0 at *
              refine PrintLast.pure_ (i := 0) (N := some 45) (v := ?_) (a' := ?_) #[true, false, false, false, false, false, false, false, false, false, false, false, false, false, false, false, false] rfl rfl (by kernel_rfl) (fun _ _ _ h => h) (Or.inl ⟨by rfl, ?_⟩) ?_ ?_
              rotate_left
              · intro w'
                go_simp
                with_reducible rfl
              rotate_left
              · simp only [Act.put, List.setIfInBounds_toArray, List.set_cons_zero, List.set_cons_succ]
                rfl
              refine PrintLast.pure_ (i := 1) (N := some 46) (v := ?_) (a' := ?_) #[true, true, false, false, false, false, false, false, false, false, false, false, false, false, false, false, false] rfl rfl (by kernel_rfl) (fun _ _ _ h => h) (Or.inl ⟨by rfl, ?_⟩) ?_ ?_
              rotate_left
              · intro w'
                go_simp
                with_reducible rfl
              rotate_left
              · simp only [Act.put, List.setIfInBounds_toArray, List.set_cons_zero, List.set_cons_succ]
                rfl
              refine PrintLast.pure_ (i := 2) (N := some 47) (v := ?_) (a' := ?_) #[true, true, true, false, false, false, false, false, false, false, false, false, false, false, false, false, false] rfl rfl (by kernel_rfl) (fun _ _ _ h => h) (Or.inl ⟨by rfl, ?_⟩) ?_ ?_
              rotate_left
              · intro w'
                go_simp
                with_reducible rfl
              rotate_left
              · simp only [Act.put, List.setIfInBounds_toArray, List.set_cons_zero, List.set_cons_succ]
                rfl
              refine PrintLast.pure_ (i := 3) (N := some 48) (v := undef) (a' := ?_) #[true, true, true, true, false, false, false, false, false, false, false, false, false, false, false, false, false] rfl rfl (by kernel_rfl) (fun _ _ _ h => h) (Or.inr ⟨by rfl, rfl⟩) ?_ ?_
              rotate_left
              · simp only [Act.put, List.setIfInBounds_toArray, List.set_cons_zero, List.set_cons_succ]
                rfl
              refine PrintLast.pure_ (i := 4) (N := some 49) (v := undef) (a' := ?_) #[true, true, true, true, true, false, false, false, false, false, false, false, false, false, false, false, false] rfl rfl (by kernel_rfl) (fun _ _ _ h => h) (Or.inr ⟨by rfl, rfl⟩) ?_ ?_
              rotate_left
              · simp only [Act.put, List.setIfInBounds_toArray, List.set_cons_zero, List.set_cons_succ]
                rfl
              refine PrintLast.pure_ (i := 5) (N := some 50) (v := undef) (a' := ?_) #[true, true, true, true, true, true, false, false, false, false, false, false, false, false, false, false, false] rfl rfl (by kernel_rfl) (fun _ _ _ h => h) (Or.inr ⟨by rfl, rfl⟩) ?_ ?_
              rotate_left
              · simp only [Act.put, List.setIfInBounds_toArray, List.set_cons_zero, List.set_cons_succ]
                rfl
              refine PrintLast.pure_ (i := 6) (N := some 51) (v := undef) (a' := ?_) #[true, true, true, true, true, true, true, false, false, false, false, false, false, false, false, false, false] rfl rfl (by kernel_rfl) (fun _ _ _ h => h) (Or.inr ⟨by rfl, rfl⟩) ?_ ?_
              rotate_left
              · simp only [Act.put, List.setIfInBounds_toArray, List.set_cons_zero, List.set_cons_succ]
                rfl
              refine PrintLast.pure_ (i := 7) (N := some 52) (v := undef) (a' := ?_) #[true, true, true, true, true, true, true, true, false, false, false, false, false, false, false, false, false] rfl rfl (by kernel_rfl) (fun _ _ _ h => h) (Or.inr ⟨by rfl, rfl⟩) ?_ ?_
              rotate_left
              · simp only [Act.put, List.setIfInBounds_toArray, List.set_cons_zero, List.set_cons_succ]
                rfl
              refine PrintLast.pure_ (i := 8) (N := some 53) (v := undef) (a' := ?_) #[true, true, true, true, true, true, true, true, true, false, false, false, false, false, false, false, false] rfl rfl (by kernel_rfl) (fun _ _ _ h => h) (Or.inr ⟨by rfl, rfl⟩) ?_ ?_
              rotate_left
              · simp only [Act.put, List.setIfInBounds_toArray, List.set_cons_zero, List.set_cons_succ]
                rfl
              refine PrintLast.pure_ (i := 9) (N := some 54) (v := undef) (a' := ?_) #[true, true, true, true, true, true, true, true, true, true, false, false, false, false, false, false, false] rfl rfl (by kernel_rfl) (fun _ _ _ h => h) (Or.inr ⟨by rfl, rfl⟩) ?_ ?_
              rotate_left
              · simp only [Act.put, List.setIfInBounds_toArray, List.set_cons_zero, List.set_cons_succ]
                rfl
              refine PrintLast.pure_ (i := 10) (N := some 55) (v := undef) (a' := ?_) #[true, true, true, true, true, true, true, true, true, true, true, false, false, false, false, false, false] rfl rfl (by kernel_rfl) (fun _ _ _ h => h) (Or.inr ⟨by rfl, rfl⟩) ?_ ?_
              rotate_left
              · simp only [Act.put, List.setIfInBounds_toArray, List.set_cons_zero, List.set_cons_succ]
                rfl
              refine PrintLast.pure_ (i := 11) (N := some 56) (v := undef) (a' := ?_) #[true, true, true, true, true, true, true, true, true, true, true, true, false, false, false, false, false] rfl rfl (by kernel_rfl) (fun _ _ _ h => h) (Or.inr ⟨by rfl, rfl⟩) ?_ ?_
              rotate_left
              · simp only [Act.put, List.setIfInBounds_toArray, List.set_cons_zero, List.set_cons_succ]
                rfl
              refine PrintLast.pure_ (i := 12) (N := some 57) (v := undef) (a' := ?_) #[true, true, true, true, true, true, true, true, true, true, true, true, true, false, false, false, false] rfl rfl (by kernel_rfl) (fun _ _ _ h => h) (Or.inr ⟨by rfl, rfl⟩) ?_ ?_
              rotate_left
              · simp only [Act.put, List.setIfInBounds_toArray, List.set_cons_zero, List.set_cons_succ]
                rfl
              refine PrintLast.pure_ (i := 13) (N := some 58) (v := undef) (a' := ?_) #[true, true, true, true, true, true, true, true, true, true, true, true, true, true, false, false, false] rfl rfl (by kernel_rfl) (fun _ _ _ h => h) (Or.inr ⟨by rfl, rfl⟩) ?_ ?_
              rotate_left
              · simp only [Act.put, List.setIfInBounds_toArray, List.set_cons_zero, List.set_cons_succ]
                rfl
              refine PrintLast.pure_ (i := 14) (N := some 59) (v := undef) (a' := ?_) #[true, true, true, true, true, true, true, true, true, true, true, true, true, true, true, false, false] rfl rfl (by kernel_rfl) (fun _ _ _ h => h) (Or.inr ⟨by rfl, rfl⟩) ?_ ?_
              rotate_left
              · simp only [Act.put, List.setIfInBounds_toArray, List.set_cons_zero, List.set_cons_succ]
                rfl
              refine PrintLast.pure_ (i := 15) (N := some 60) (v := undef) (a' := ?_) #[true, true, true, true, true, true, true, true, true, true, true, true, true, true, true, true, false] rfl rfl (by kernel_rfl) (fun _ _ _ h => h) (Or.inr ⟨by rfl, rfl⟩) ?_ ?_
              rotate_left
              · simp only [Act.put, List.setIfInBounds_toArray, List.set_cons_zero, List.set_cons_succ]
                rfl
              refine PrintLast.pure_ (i := 16) (N := some 61) (v := ?_) (a' := ?_) #[true, true, true, true, true, true, true, true, true, true, true, true, true, true, true, true, true] rfl rfl (by kernel_rfl) (fun _ _ _ h => h) (Or.inl ⟨by rfl, ?_⟩) ?_ ?_
              rotate_left
              · intro w'
                go_simp
                with_reducible rfl
              rotate_left
              · simp only [Act.put, List.setIfInBounds_toArray, List.set_cons_zero, List.set_cons_succ]
                rfl
              refine PrintLast.done_ (by kernel_rfl) ?_
              have HX2 := Aside0.mk (HX.out.below hHeld)
              go_wp2
              go_ret2
              exact ⟨none, 0, by rw [EN.out, EB.out]; rfl, by rw [EN.out]; exact Kd.C_nil _ _, HX2.out.bel⟩
      · have ek : m.2.2.1.take k = m.2.2.1 := by rw [show k = m.2.2.1.length by omega, List.take_length]
        have hm := HM.out
        rw [ek] at hm
        have EN : Hid (mtI files m = is.map Int.ofNat) := Lib.hid (by unfold mtI; rw [EM.out, hm])
        have EB : Hid ((mt files m).isSome = true) := Lib.hid (by rw [EM.out, hm]; rfl)
        obtain ⟨A', c', e, _, hC⟩ := Kd.R_reads HO.out
        have HC : Aside0 ((Kd.int .i64).C wr A' (is.map Int.ofNat).length (is.map Int.ofNat)) := ⟨hC⟩
        generalize is.map Int.ofNat = ii at *
        subst e
        clear hC ek hm
        go_wp2
        go_ret2
        exact ⟨A', c', by rw [EN.out, EB.out]; rfl, by rw [EN.out]; exact HC.out, HX.out.bel⟩
  · have b1 : ((files.length : Int) == (m.2.2.1.length : Int)) = false := by simp; omega
    have b2 : ((files.length : Int) != (m.2.2.1.length : Int)) = true := by simp; omega
    have b3 : (files.length == m.2.2.1.length) = false := by simpa using hl
    have EM : mt files m = none := by unfold mt; rw [if_neg hl]
    have EN : Hid (mtI files m = []) := Lib.hid (by unfold mtI; rw [EM])
    have EB : Hid ((mt files m).isSome = false) := Lib.hid (by rw [EM]; rfl)
    clear EM
    go_enter Try.func73, Try.ntmps73
    go_wp2
    go_ret2
    exact ⟨none, 0, by rw [EN.out, EB.out]; rfl, by rw [EN.out]; exact Kd.C_nil _ _, HX.out.bel⟩
end Cr
end Go.Proofs.Ytjeeakhgjcbhaaa
set_option linter.unusedVariables false
set_option linter.unusedSimpArgs false
namespace Go.Proofs.Ytjeeakhgjcbhaaa
open Go.RowKit Go.Proofs.YtjeeakhgjcbhaaaW.PrintWords Go.Proofs.YtjeeakhgjcbhaaaW Go.Proofs.YtjeeakhgjcbhaaaW.PrintMore
namespace Cr
open Wd Vl Mt Sa PCreateSlices
theorem dat_get {files : List Src} {is : List Nat} {k : Nat} (hk : k < is.length) : (dat files is).getD k [] = (files.getD (is.getD k 0) s0).f1 := by
  unfold dat
  simp [List.getD_eq_getElem?_getD, hk]
set_option maxHeartbeats 8000000 in
set_option maxRecDepth 100000 in
theorem refSlice_any (m : MetaD) (cs : List Value) (A : Option Addr) (c : Nat) (files : List Src) (w : World) (hK : KMeta.K w m cs) (hG : GMeta m) (hr : KSrc.C w A files.length files) (hc : files.length ≤ c) (hlen : files.length * 48 ≤ 140737488351232) (hpl : ∀ s ∈ files, s.f0.length ≤ 140737488351232) :
    Calls Try.prog 39 #[.agg cs.toArray, .slice A files.length c] w fun e w' => ∃ A' c', e = .returned (.tuple #[.slice A' (sliceR files m).1.length c', .int .i64 (sliceR files m).2]) ∧ (sliceR files m).1.length ≤ c' ∧ KDt.C w' A' (sliceR files m).1.length (sliceR files m).1 ∧ Below w.heap.size w w' := by
  have HX := Aside0.mk (Bx.first w hK)
  have HR := Aside0.mk hr
  have HK := Aside0.mk hK
  have HFA := Lib.hid (fun W (h : KMeta.K W m cs) => refFault_any m cs W h hG)
  have HMA := Lib.hid (fun W (h : KMeta.K W m cs) (h' : KSrc.C W A files.length files) => matched_any m cs A c files W h hG h' hc hlen hpl)
  have HPA := Lib.hid (fun (h0 : cfault m = 0) W (h : KMeta.K W m cs) => refPlaces_any m cs W h hG h0)
  have E0 : Hid (sliceR files m = if cfault m = 0 then (match mt files m with | some is => ((pls m.2.1 m.2.2.1 0).map (cutD (dat files is)), 0) | none => ([], 94)) else ([], cfault m)) := Lib.hid rfl
  have HIN := Lib.hid (fun (h0 : cfault m = 0) is (h1 : mt files m = some is) => inD_of h0 h1)
  have HMX := Lib.hid (fun (h0 : cfault m = 0) => (cfault_ok h0).2.2.2.2.2)
  have HMG : Hid (∀ is, mt files m = some is → is.length = m.2.2.1.length ∧ ∀ k, k < m.2.2.1.length → is.getD k 0 < files.length) := Lib.hid fun is h => by
    unfold mt at h
    split at h
    · exact ⟨mAll_len files _ is h, fun k hk => (mAll_get files _ is h k hk).1⟩
    · cases h
  clear hK hG hr hpl
  go_enter Try.func39, Try.ntmps39
  go_wp2_with ((with_reducible refine Fl.wpList_load rfl 46 (.tmp 2) rfl (⟨w.heap.size, 0, none⟩) ?lx (cs) _ ?lc Try.underlying46 rfl ?li ?_); (case lx => rfl); (case lc => exact HX.out.load); (case li => exact HX.out.info))
  go_at_call 56
  refine (HFA.out _ HX.out.k).mono ?_
  rintro e w1 ⟨rfl, hb1⟩
  replace HX := Aside0.mk (HX.out.below hb1)
  clear hb1 HFA
  generalize hfe : cfault m = fe at *
  by_cases h0 : fe = 0
  · subst h0
    have E1 := Lib.hid (E0.out.trans (if_pos rfl))
    have HPL := Lib.hid (HPA.out rfl)
    have HIN2 := Lib.hid (HIN.out rfl)
    have HMX2 := HMX.out rfl
    clear E0 hfe HPA HIN HMX
    go_wp2_with ((with_reducible refine Fl.wpList_load rfl 46 (.tmp 2) rfl (⟨w.heap.size, 0, none⟩) ?lx (cs) _ ?lc Try.underlying46 rfl ?li ?_); (case lx => rfl); (case lc => exact HX.out.load); (case li => exact HX.out.info))
    go_at_call 73
    refine (HMA.out _ HX.out.k (Kd.C_below HR.out HX.out.bel)).mono ?_
    rintro e w2 ⟨A2, c2, rfl, hC, hb2⟩
    replace HX := Aside0.mk (HX.out.below hb2)
    have HD : Hid (mtI files m = match mt files m with | some is => is.map Int.ofNat | none => []) := Lib.hid rfl
    have HCI := Aside0.mk hC
    clear hb2 HMA hC
    cases hmt : mt files m with
    | none =>
      rw [hmt] at E1 HD
      replace E1 : Hid (sliceR files m = ([], 94)) := E1
      clear hmt HD
      go_wp2
      go_ret2
      exact ⟨none, 0, by rw [E1.out]; rfl, by rw [E1.out]; exact Nat.le_refl _, by rw [E1.out]; exact Kd.C_nil _ _, HX.out.bel⟩
    | some is =>
      have HI := Lib.hid (HIN2.out is hmt)
      obtain ⟨hil, hig⟩ := HMG.out is hmt
      rw [hmt] at E1 HD
      replace E1 : Hid (sliceR files m = ((pls m.2.1 m.2.2.1 0).map (cutD (dat files is)), 0)) := E1
      replace HD : Hid (mtI files m = is.map Int.ofNat) := HD
      rw [HD.out] at HCI ⊢
      have HDL : Hid ((dat files is).length = is.length) := Lib.hid (by unfold dat; rw [List.length_map])
      have HIG := Lib.hid hig
      have HIL := Lib.hid hil
      have HDG : Hid (∀ k, k < is.length → (dat files is).getD k [] = (files.getD (is.getD k 0) s0).f1) := Lib.hid fun k hk => dat_get hk
      have HIV : Hid (∀ k, k < is.length → (is.map Int.ofNat).getD k 0 = (is.getD k 0 : Int)) := Lib.hid fun k hk => by simp [List.getD_eq_getElem?_getD, hk]
      have HIIL : Hid ((is.map Int.ofNat).length = is.length) := Lib.hid (by rw [List.length_map])
      generalize dat files is = D at *
      generalize is.map Int.ofNat = ii at *
      clear hmt HD HIN2 hil hig
      go_wp2_with ((with_reducible refine Fl.wpList_load rfl 46 (.tmp 2) rfl (⟨w.heap.size, 0, none⟩) ?lx (cs) _ ?lc Try.underlying46 rfl ?li ?_); (case lx => rfl); (case lc => exact HX.out.load); (case li => exact HX.out.info))
      go_at_call 57
      refine (HPL.out _ HX.out.k).mono ?_
      rintro e w4 ⟨A4, c4, rfl, hC4, hb4⟩
      replace HX := Aside0.mk (HX.out.below hb4)
      have HCI2 := Aside0.mk (Kd.C_below HCI.out hb4)
      have HC4 := Aside0.mk hC4
      have hb4' := Lib.hid hb4
      clear hb4 hC4 HPL HCI
      generalize pls m.2.1 m.2.2.1 0 = L at *
      obtain ⟨wc, hwc⟩ : ∃ wc, wc = w4 := ⟨_, rfl⟩
      have HWC : Aside0 (Below w.heap.size w wc) := ⟨by rw [hwc]; exact HX.out.bel⟩
      have HBC0 : Aside0 (Below wc.heap.size wc w4) := ⟨by rw [hwc]; exact Below.refl _ _⟩
      rw [← hwc] at HC4 HCI2
      clear hwc hb4'
      go_wp2
      go_loopw [10, 11] (fun v i wz => ∃ k : Nat, k ≤ L.length ∧ i = .int .i64 k ∧ Aside0 (KDt.R 103 wz wc.heap.size (fun _ => True) v ((L.take k).map (cutD D))) ∧ Aside0 (Bx w m w.heap.size cs wz) ∧ Aside0 (Below wc.heap.size wc wz)) (fun v i _ => L.length - (intOf i).toNat)
      case atStart => exact ⟨0, by omega, rfl, ⟨Kd.R_nil _ _ _ _ _⟩, HX, HBC0⟩
      case round =>
        clear HX HBC0
        obtain ⟨k, hk, rfl, HO, HX, HBC⟩ := hrel
        by_cases hlt : k < L.length
        · obtain ⟨ad, e0, hcp⟩ := Fl.at_flat (0, 0, 0, 0) HC4.out k hlt
          subst e0
          obtain ⟨i0, i1, f0, l0, l1, mx⟩ := HI.out (L.getD k (0, 0, 0, 0)) (nth_mem (0, 0, 0, 0) L k hlt)
          have HT : Hid ((L.take (k + 1)).map (cutD D) = (L.take k).map (cutD D) ++ [cutD D (L.getD k (0, 0, 0, 0))]) := Lib.hid (by rw [List.take_succ_eq_append_getElem hlt, List.map_append, List.getD_eq_getElem?_getD, List.getElem?_eq_getElem hlt]; rfl)
          generalize L.getD k (0, 0, 0, 0) = p at *
          have EC : Hid (cutD D p = ((D.getD p.1.toNat []).take (p.2.2.1 + p.2.2.2).toNat).drop p.2.2.1.toNat) := Lib.hid rfl
          obtain ⟨lo, hlo⟩ : ∃ lo : Nat, p.2.2.1 = lo := ⟨p.2.2.1.toNat, by omega⟩
          obtain ⟨ln, hln⟩ : ∃ ln : Nat, p.2.2.2 = ln := ⟨p.2.2.2.toNat, by omega⟩
          obtain ⟨ix, hix⟩ : ∃ ix : Nat, p.1 = ix := ⟨p.1.toNat, by omega⟩
          rw [hix, Int.toNat_natCast] at l1 mx EC
          rw [hix] at i1
          have hixl : ix < is.length := by have := HDL.out; omega
          have hii : (ix : Int) < (ii.length : Int) := by have := HIIL.out; omega
          have hfi := HIG.out ix (by have := HIL.out; omega)
          have hdg := HDG.out ix hixl
          have hiv := HIV.out ix hixl
          obtain ⟨ai, ics, eai, _, hKi, hics⟩ := Kd.C_get HCI2.out 0 (ix : Int) (by omega) (by omega)
          subst eai
          rw [Int.toNat_natCast, hiv] at hKi
          rw [Int.toNat_natCast] at hics
          change ∀ q u, ics[q]? = some u → wc.cell? (ai.add (ix * 1 + q)) = some u at hics
          replace hKi : ics = [.int .i64 (is.getD ix 0 : Int)] := hKi
          subst hKi
          have hwi : wc.cell? (ai.add ix) = some (.int .i64 (is.getD ix 0 : Int)) := by have := hics 0 _ rfl; rwa [Nat.mul_one, Nat.add_zero] at this
          clear hics hiv
          obtain ⟨sad, scs, esa, _, hKs, hscs⟩ := Kd.C_get HR.out s0 (is.getD ix 0 : Int) (by omega) (by omega)
          subst esa
          rw [Int.toNat_natCast] at hKs hscs
          change ∀ q u, scs[q]? = some u → w.cell? (sad.add (is.getD ix 0 * 2 + q)) = some u at hscs
          rw [hdg] at l1 mx EC
          generalize is.getD ix 0 = fi at *
          generalize files.getD fi s0 = s at *
          obtain ⟨A0, c0, A1, c1, rfl, g0, g1, g2, g3⟩ := k106_open hKs
          have hd1 : wr.cell? ⟨(sad.add (fi * 2)).block, (sad.add (fi * 2)).off + 1, none⟩ = some (.slice A1 s.f1.length c1) := cell_stay HX.out.bel (Fl.fcell 1 (by omega) (hscs 1 _ rfl))
          have hwi2 := cell_stay HBC.out hwi
          have hpc0 : wr.cell? (ad.add (k * 4)) = some (.int .i64 (ix : Int)) := cell_stay HBC.out (by have := hcp 0 _ rfl; rwa [hix, Nat.add_zero] at this)
          have HG3 := Aside0.mk g3
          have HPF : Hid (∀ wz, Below wc.heap.size wc wz → wz.cell? ⟨(ad.add (k * 4)).block, (ad.add (k * 4)).off + 2, none⟩ = some (.int .i64 (lo : Int)) ∧ wz.cell? ⟨(ad.add (k * 4)).block, (ad.add (k * 4)).off + 3, none⟩ = some (.int .i64 (ln : Int))) := Lib.hid fun wz h => ⟨cell_stay h (Fl.fcell 2 (by omega) (by have := hcp 2 _ rfl; rwa [hlo] at this)), cell_stay h (Fl.fcell 3 (by omega) (by have := hcp 3 _ rfl; rwa [hln] at this))⟩
          rw [hlo, hln] at l1 EC
          have hfi' : (fi : Int) < (files.length : Int) := by omega
          have EC2 : Hid (cutD D p = (s.f1.drop lo).take ln) := Lib.hid (by rw [EC.out, show ((lo : Int) + ln).toNat = lo + ln by omega, Int.toNat_natCast, List.drop_take, show lo + ln - lo = ln by omega])
          generalize s.f1 = d at *
          have hsl : lo + ln ≤ d.length := by omega
          have HLD : Hid ((d.drop lo).length = d.length - lo) := Lib.hid List.length_drop
          have hdm : d.length ≤ 1099511627776 := mx
          clear hwi hdg hKs hscs g0 g1 g2 g3 hcp EC hlo hln hix i0 f0 l0 l1 mx i1 HIV HIG
          go_wp2
          obtain ⟨wo, hwo⟩ : ∃ wo, wo = wr := ⟨_, rfl⟩
          rw [← hwo] at HO HX HBC hd1 hwi2 hpc0 ⊢
          clear hwo
          obtain ⟨hz, hhz⟩ : ∃ hz, hz = wo.heap.size := ⟨_, rfl⟩
          have HHZ := Lib.hid hhz
          have HOK : Hid (∀ k, hz ≤ k → True ∧ some k ≠ u10.ownBlock) := Lib.hid fun k hk => ⟨trivial, fun e => by have := Kd.R_lt HO.out k e.symm; omega⟩
          have HB0 : Aside0 (Below hz wo wo) := ⟨Below.refl _ _⟩
          clear hd1 hwi2 hpc0 hhz
          go_loopw [13, 14] (fun v i wz => ∃ j : Nat, j ≤ ln ∧ i = .int .i64 j ∧ Aside0 ((Kd.int .u8).R 5 wz hz (fun _ => True) v ((d.drop lo).take j)) ∧ Aside0 (Below hz wo wz)) (fun v i _ => ln - (intOf i).toNat)
          case atStart => exact ⟨0, by omega, rfl, ⟨Kd.R_nil _ _ _ _ _⟩, HB0⟩
          case round =>
            clear HB0
            obtain ⟨j, hj, rfl, HOP, HBB⟩ := hrel
            have hbb : Below wo.heap.size wo wr := by rw [← HHZ.out]; exact HBB.out
            obtain ⟨hpc2, hpc3⟩ := HPF.out wr (below_step HBC.out hbb)
            by_cases hjl : j < ln
            · obtain ⟨bd, bcs, ebd, _, hKb, hbcs⟩ := Kd.C_get (Kd.C_below HG3.out (below_step HX.out.bel hbb)) 0 ((lo : Int) + j) (by omega) (by omega)
              subst ebd
              rw [show ((lo : Int) + j).toNat = lo + j by omega] at hKb hbcs
              change ∀ q u, bcs[q]? = some u → wr.cell? (bd.add ((lo + j) * 1 + q)) = some u at hbcs
              have hdj : (d.drop lo).getD j 0 = d.getD (lo + j) 0 := by simp [List.getD_eq_getElem?_getD, List.getElem?_drop]
              rw [← hdj] at hKb
              replace hKb : bcs = [.int .u8 ((d.drop lo).getD j 0)] := hKb
              subst hKb
              have hby : wr.cell? (bd.add (lo + j)) = some (.int .u8 ((d.drop lo).getD j 0)) := by have := hbcs 0 _ rfl; rwa [Nat.mul_one, Nat.add_zero] at this
              have HTT : Hid ((d.drop lo).take (j + 1) = (d.drop lo).take j ++ [(d.drop lo).getD j 0]) := Lib.hid (by have hq : j < (d.drop lo).length := by { have := HLD.out; omega }; rw [List.take_succ_eq_append_getElem hq, List.getD_eq_getElem?_getD, List.getElem?_eq_getElem hq]; rfl)
              have HLEN : Hid ((((d.drop lo).take j).length + 1) * 1 ≤ 140737488351232) := Lib.hid (by rw [List.length_take]; omega)
              have HSZ : Hid (hz ≤ wr.heap.size) := Lib.hid (by rw [HHZ.out]; exact hbb.size)
              have hix2 : (lo : Int) + j < (d.length : Int) := by omega
              have hj0 : (j : Int) < (ln : Int) := by omega
              clear hbcs hdj hbb
              generalize (d.drop lo).getD j 0 = x at *
              go_wp2_with ((at_builtin; go_loud (refine Kd.R_append (Kd.int .u8) (w0 := wo) hz rfl (.tmp 57) (.tmp 68) 103 5 (.int .u8 0) 1 rfl Try.underlying103 infoU8 rfl (by decide) (by omega) u13 (((d.drop lo).take j)) (x) ([.int .u8 x]) (fun _ => True) (fun _ => False) rfl rfl ?aP (fun _ h => h.elim) ?aF ?aO ?aB ?aS ?aL ?_); (case aP => exact rfl); (case aB => exact HBB.out); (case aF => exact (fun _ _ => trivial)); (case aO => exact HOP.out); (case aS => exact HSZ.out); (case aL => have := HLEN.out; omega); intro v1 wq ho hb hg hat; have HO1 := Aside0.mk ho; have HB1 := Aside0.mk hb))
              go_roundw
              case rel => exact ⟨j + 1, by omega, by go_num, ⟨by rw [HTT.out]; exact HO1.out⟩, HB1⟩
              case measure => simp [intOf]; omega
            · have ej : j = ln := by omega
              have hOP := HOP.out
              rw [ej, ← EC2.out] at hOP
              obtain ⟨Av, cv, eu⟩ := Kd.R_slice hOP
              subst eu
              have HMP : Hid (KDt.M wr wc.heap.size (fun k => hz ≤ k) (cutD D p) [.slice Av (cutD D p).length cv]) := Lib.hid ⟨_, rfl, Kd.R_lower (R_okp hOP) (by rw [HHZ.out]; exact HBC.out.size)⟩
              replace HX := Aside0.mk (HX.out.below hbb)
              replace HO := Aside0.mk (Kd.R_below HO.out hbb)
              have HBC2 := Aside0.mk (below_step HBC.out hbb)
              have NX := Lib.hid (Kd.R_ne HO.out HX.out.bx (by decide))
              have HNB := Lib.hid (fun q (h : u10.ownBlock = some q) => HOK.out q)
              have HLEN : Hid ((((L.take k).map (cutD D)).length + 1) * 24 ≤ 140737488351232) := Lib.hid (by rw [List.length_map, List.length_take]; omega)
              clear hOP ej hbb hj
              go_wp2_with ((at_builtin; go_loud (refine Kd.R_append KDt (w0 := wc) wc.heap.size rfl (.tmp 70) (.tmp 72) 59 103 (.slice none 0 0) 24 rfl Try.underlying59 infoDt rfl (by decide) (by omega) u10 (((L.take k).map (cutD D))) ((cutD D p)) ([.slice Av (cutD D p).length cv]) (fun _ => True) (fun k => hz ≤ k) rfl rfl ?aP HOK.out ?aF ?aO ?aB ?aS ?aL ?_); (case aP => exact HMP.out); (case aB => exact HBC2.out); (case aF => exact (fun _ _ => trivial)); (case aO => exact HO.out); (case aS => exact HBC2.out.size); (case aL => have := HLEN.out; omega); intro v1 wq ho hb hg hat; have HO1 := Aside0.mk ho; have HBC1 := Aside0.mk hb; have HX1 := Aside0.mk (HX.out.grown hg (below_step HWC.out hb) NX.out (KMeta.K_below (below_step HWC.out hb) HK.out))))
              go_roundw
              case rel => exact ⟨k + 1, by omega, by go_num, ⟨by rw [HT.out]; exact HO1.out⟩, HX1, HBC1⟩
              case measure => simp [intOf]; omega
        · have ek : L.take k = L := by rw [show k = L.length by omega, List.take_length]
          have ho := HO.out
          rw [ek] at ho
          obtain ⟨A5, c5, eu, hc5, hC5⟩ := rd_of ho
          subst eu
          have HC5 := Aside0.mk hC5
          have HC5L := Lib.hid hc5
          clear ho ek hc5 hC5
          go_wp2
          go_ret2
          exact ⟨A5, c5, by rw [E1.out]; show _ = Ending.returned (.tuple #[.slice A5 (L.map (cutD D)).length c5, .int .i64 0]); first | rfl | (rw [List.length_map]; rfl), by rw [E1.out]; exact HC5L.out, by rw [E1.out]; exact HC5.out, HX.out.bel⟩
  · have E1 := Lib.hid (E0.out.trans (if_neg h0))
    have d2 : (fe == 0) = false := by simp [h0]
    have d3 : (fe != 0) = true := by simp [h0]
    go_wp2
    go_ret2
    exact ⟨none, 0, by rw [E1.out]; rfl, by rw [E1.out]; exact Nat.le_refl _, by rw [E1.out]; exact Kd.C_nil _ _, HX.out.bel⟩
end Cr
end Go.Proofs.Ytjeeakhgjcbhaaa
set_option linter.unusedVariables false
set_option linter.unusedSimpArgs false
namespace Go.Proofs.Ytjeeakhgjcbhaaa
open Go.RowKit Go.Proofs.YtjeeakhgjcbhaaaW.PrintWords Go.Proofs.YtjeeakhgjcbhaaaW Go.Proofs.YtjeeakhgjcbhaaaW.PrintMore
namespace Cr
open Wd Vl Mt Sa PCreateSlices
theorem pathSame_self (xs : List ByteArray) (hm : xs.length ≤ 140737488355328) : ∀ (d k i : Nat), xs.length - i = d → d < k → torrentlaw9_pathSame.l0 k xs xs (i : Int) = some true
  | 0, k, i, hd, hk => by
    obtain ⟨k, rfl⟩ : ∃ m, k = m + 1 := ⟨k - 1, by omega⟩
    simp only [torrentlaw9_pathSame.l0]
    rw [if_neg (by omega)]
  | d + 1, k, i, hd, hk => by
    obtain ⟨k, rfl⟩ : ∃ m, k = m + 1 := ⟨k - 1, by omega⟩
    have h1 : i < xs.length := by omega
    simp only [torrentlaw9_pathSame.l0]
    rw [if_pos (by omega), if_pos (by omega), if_pos (by omega), if_pos trivial, show wrap64 ((i : Int) + 1) = ((i + 1 : Nat) : Int) from (w64 (by omega) (by omega)).trans (by omega)]
    exact pathSame_self xs hm d k (i + 1) (by omega) (by omega)
theorem pathSame_val (xs : List ByteArray) (hm : xs.length ≤ 140737488355328) (k : Nat) (hk : xs.length < k) : torrentlaw9_pathSame.f k xs xs = some true := by
  unfold torrentlaw9_pathSame.f
  rw [if_pos rfl]
  exact pathSame_self xs hm xs.length k 0 (by omega) hk
theorem bytesSame_self (xs : List Int) (hm : xs.length ≤ 140737488355328) : ∀ (d k i : Nat), xs.length - i = d → d < k → torrentlaw9_bytesSame.l0 k xs xs (i : Int) = some true
  | 0, k, i, hd, hk => by
    obtain ⟨k, rfl⟩ : ∃ m, k = m + 1 := ⟨k - 1, by omega⟩
    simp only [torrentlaw9_bytesSame.l0]
    rw [if_neg (by omega)]
  | d + 1, k, i, hd, hk => by
    obtain ⟨k, rfl⟩ : ∃ m, k = m + 1 := ⟨k - 1, by omega⟩
    have h1 : i < xs.length := by omega
    simp only [torrentlaw9_bytesSame.l0]
    rw [if_pos (by omega), if_pos (by omega), if_pos (by omega), if_pos trivial, show wrap64 ((i : Int) + 1) = ((i + 1 : Nat) : Int) from (w64 (by omega) (by omega)).trans (by omega)]
    exact bytesSame_self xs hm d k (i + 1) (by omega) (by omega)
theorem bytesSame_val (xs : List Int) (hm : xs.length ≤ 140737488355328) (k : Nat) (hk : xs.length < k) : torrentlaw9_bytesSame.f k xs xs = some true := by
  unfold torrentlaw9_bytesSame.f
  rw [if_pos rfl]
  exact bytesSame_self xs hm xs.length k 0 (by omega) hk
/-- Files within the reach. -/
def SrcOk (files : List Src) : Prop := files.length * 48 ≤ 140737488351232 ∧ ∀ s ∈ files, s.f0.length * 16 ≤ 140737488351232 ∧ s.f1.length ≤ 140737488351232
theorem rdT_mem {files : List Src} {i : Nat} (h : i < files.length) : rd_T106 files (i : Int) ∈ files := by
  show files.getD (i : Int).toNat s0 ∈ files
  rw [Int.toNat_natCast]
  exact nth_mem s0 files i h
theorem filesSame_self (xs : List Src) (hm : SrcOk xs) : ∀ (d k i : Nat), xs.length - i = d → d + 140737488355328 < k → torrentlaw9_filesSame.l0 k xs xs (i : Int) = some true
  | 0, k, i, hd, hk => by
    obtain ⟨k, rfl⟩ : ∃ m, k = m + 1 := ⟨k - 1, by omega⟩
    simp only [torrentlaw9_filesSame.l0]
    rw [if_neg (by omega)]
  | d + 1, k, i, hd, hk => by
    obtain ⟨k, rfl⟩ : ∃ m, k = m + 1 := ⟨k - 1, by omega⟩
    have h1 : i < xs.length := by omega
    have h0 := hm.1
    have h2 := hm.2 _ (rdT_mem h1)
    simp only [torrentlaw9_filesSame.l0]
    rw [if_pos (by omega), if_pos (by omega), if_pos (by omega), pathSame_val _ (by omega) k (by omega)]
    simp only [Option.bind_some, if_true]
    rw [bytesSame_val _ (by omega) k (by omega)]
    simp only [Option.bind_some, if_true]
    rw [show wrap64 ((i : Int) + 1) = ((i + 1 : Nat) : Int) from (w64 (by omega) (by omega)).trans (by omega)]
    exact filesSame_self xs hm d k (i + 1) (by omega) (by omega)
theorem filesSame_val (xs : List Src) (hm : SrcOk xs) : torrentlaw9_filesSame.f (xs.length + 140737488355329) xs xs = some true := by
  unfold torrentlaw9_filesSame.f
  rw [if_pos rfl]
  exact filesSame_self xs hm xs.length _ 0 (by omega) (by omega)
theorem piecesSame_self (xs : List (List Int)) (hl : xs.length ≤ 140737488355328) (hm : ∀ x ∈ xs, x.length ≤ 140737488355327) : ∀ (d k i : Nat), xs.length - i = d → d + 140737488355328 < k → torrentlaw9_piecesSame.l0 k xs xs (i : Int) = some true
  | 0, k, i, hd, hk => by
    obtain ⟨k, rfl⟩ : ∃ m, k = m + 1 := ⟨k - 1, by omega⟩
    simp only [torrentlaw9_piecesSame.l0]
    rw [if_neg (by omega)]
  | d + 1, k, i, hd, hk => by
    obtain ⟨k, rfl⟩ : ∃ m, k = m + 1 := ⟨k - 1, by omega⟩
    have h1 : i < xs.length := by omega
    have h2 : (rd_L4 xs (i : Int)).length ≤ 140737488355327 := hm _ (by
      show xs.getD (i : Int).toNat [] ∈ xs
      rw [Int.toNat_natCast]
      exact nth_mem [] xs i h1)
    simp only [torrentlaw9_piecesSame.l0]
    rw [if_pos (by omega), if_pos (by omega), if_pos (by omega), bytesSame_val _ (by omega) k (by omega)]
    simp only [Option.bind_some, if_true]
    rw [show wrap64 ((i : Int) + 1) = ((i + 1 : Nat) : Int) from (w64 (by omega) (by omega)).trans (by omega)]
    exact piecesSame_self xs hl hm d k (i + 1) (by omega) (by omega)
theorem piecesSame_val (xs : List (List Int)) (hl : xs.length ≤ 140737488355328) (hm : ∀ x ∈ xs, x.length ≤ 140737488355327) : torrentlaw9_piecesSame.f (xs.length + 140737488355329) xs xs = some true := by
  unfold torrentlaw9_piecesSame.f
  rw [if_pos rfl]
  exact piecesSame_self xs hl hm xs.length _ 0 (by omega) (by omega)
theorem twinFiles_self (xs : List Src) (hm : SrcOk xs) : ∀ (d k i : Nat), xs.length - i = d → i ≤ xs.length → d < k → torrentlaw9_twinFiles.l0 k xs (xs.take i) (i : Int) = some xs
  | 0, k, i, hd, hi, hk => by
    obtain ⟨k, rfl⟩ : ∃ m, k = m + 1 := ⟨k - 1, by omega⟩
    simp only [torrentlaw9_twinFiles.l0]
    rw [if_neg (by omega), List.take_of_length_le (by omega)]
  | d + 1, k, i, hd, hi, hk => by
    obtain ⟨k, rfl⟩ : ∃ m, k = m + 1 := ⟨k - 1, by omega⟩
    have h1 : i < xs.length := by omega
    have h0 := hm.1
    have h2 := hm.2 _ (rdT_mem h1)
    have e : xs.take i ++ [(⟨([] : List ByteArray) ++ (rd_T106 xs (i : Int)).f0, ([] : List Int) ++ (rd_T106 xs (i : Int)).f1⟩ : Src)] = xs.take (i + 1) := by
      rw [List.take_succ_eq_append_getElem h1]
      congr 2
      show (⟨[] ++ (xs.getD (i : Int).toNat s0).f0, [] ++ (xs.getD (i : Int).toNat s0).f1⟩ : Src) = xs[i]
      rw [Int.toNat_natCast, List.nil_append, List.nil_append, List.getD_eq_getElem?_getD, List.getElem?_eq_getElem h1]
      rfl
    simp only [torrentlaw9_twinFiles.l0]
    rw [if_pos (by omega), if_pos (by omega), if_pos (by simp only [List.length_nil]; omega), if_pos (by simp only [List.length_nil]; omega), if_pos (by rw [List.length_take]; omega), e, show wrap64 ((i : Int) + 1) = ((i + 1 : Nat) : Int) from (w64 (by omega) (by omega)).trans (by omega)]
    exact twinFiles_self xs hm d k (i + 1) (by omega) (by omega) (by omega)
theorem twinFiles_any (A : Option Addr) (c : Nat) (files : List Src) (w : World) (hr : KSrc.C w A files.length files) (hc : files.length ≤ c) (hm : SrcOk files) :
    Calls Try.prog 37 #[.slice A files.length c] w fun e w' => ∃ A' c', e = .returned (.slice A' files.length c') ∧ files.length ≤ c' ∧ KSrc.C w' A' files.length files ∧ Below w.heap.size w w' :=
  (torrentlaw9_twinFiles.calls (files.length + 1) A c files files w hr hc (twinFiles_self files hm files.length _ 0 (by omega) (by omega) (by omega))).mono fun e w' ⟨v, he, hs, hb⟩ => by
    obtain ⟨A', c', e1, h1, h2⟩ := Kd.R_reads (Kd.S_R hs)
    exact ⟨A', c', by rw [he, e1], h1, h2, hb⟩
theorem filesSame_any (A0 : Option Addr) (c0 : Nat) (A1 : Option Addr) (c1 : Nat) (files : List Src) (w : World) (h0 : KSrc.C w A0 files.length files) (hc0 : files.length ≤ c0) (h1 : KSrc.C w A1 files.length files) (hc1 : files.length ≤ c1) (hm : SrcOk files) :
    Calls Try.prog 31 #[.slice A0 files.length c0, .slice A1 files.length c1] w fun e w' => e = .returned (.bool true) ∧ Below w.heap.size w w' :=
  (torrentlaw9_filesSame.calls _ A0 c0 files A1 c1 files true w h0 hc0 h1 hc1 (filesSame_val files hm)).mono fun e w' ⟨he, q, hq⟩ => ⟨he, by subst hq; exact below_drewN (Below.refl _ _) q⟩
theorem piecesSame_any (A0 : Option Addr) (c0 : Nat) (A1 : Option Addr) (c1 : Nat) (xs : List (List Int)) (w : World) (h0 : KDt.C w A0 xs.length xs) (hc0 : xs.length ≤ c0) (h1 : KDt.C w A1 xs.length xs) (hc1 : xs.length ≤ c1) (hl : xs.length ≤ 140737488355328) (hm : ∀ x ∈ xs, x.length ≤ 140737488355327) :
    Calls Try.prog 32 #[.slice A0 xs.length c0, .slice A1 xs.length c1] w fun e w' => e = .returned (.bool true) ∧ Below w.heap.size w w' :=
  (torrentlaw9_piecesSame.calls _ A0 c0 xs A1 c1 xs true w h0 hc0 h1 hc1 (piecesSame_val xs hl hm)).mono fun e w' ⟨he, q, hq⟩ => ⟨he, by subst hq; exact below_drewN (Below.refl _ _) q⟩
theorem sliceR_ok (files : List Src) (m : MetaD) : (sliceR files m).1.length ≤ 140737488355328 ∧ ∀ x ∈ (sliceR files m).1, x.length ≤ 140737488355327 := by
  unfold sliceR
  by_cases hf : cfault m = 0
  · rw [if_pos hf]
    have hmx := (cfault_ok hf).2.2.2.2.2
    cases hm : mt files m with
    | none => exact ⟨by simp, fun x hx => by cases hx⟩
    | some is =>
      have hi := inD_of hf hm
      refine ⟨by simp only [List.length_map]; omega, fun x hx => ?_⟩
      obtain ⟨p, hp, rfl⟩ := List.mem_map.1 hx
      have h1 := (hi p hp).mx
      unfold cutD
      rw [List.length_drop, List.length_take]
      omega
  · rw [if_neg hf]; exact ⟨by simp, fun x hx => by cases hx⟩
end Cr
end Go.Proofs.Ytjeeakhgjcbhaaa
set_option linter.unusedVariables false
set_option linter.unusedSimpArgs false
namespace Go.Proofs.Ytjeeakhgjcbhaaa
open Go.RowKit Go.Proofs.YtjeeakhgjcbhaaaW.PrintWords Go.Proofs.YtjeeakhgjcbhaaaW Go.Proofs.YtjeeakhgjcbhaaaW.PrintMore
namespace Cr
open Wd Vl Mt Sa PCreateSlices
set_option maxHeartbeats 4000000 in
set_option maxRecDepth 100000 in
theorem slices_any (m : MetaD) (cs : List Value) (A : Option Addr) (c : Nat) (files : List Src) (w : World) (hK : KMeta.K w m cs) (hG : GMeta m) (hr : KSrc.C w A files.length files) (hc : files.length ≤ c) (hm : SrcOk files) :
    Calls Try.prog 8 #[.agg cs.toArray, .slice A files.length c] w fun e w' => e = .returned (.bool true) ∧ Below w.heap.size w w' := by
  have HX := Aside0.mk (Bx.first w hK)
  have HG := Lib.hid hG
  have HR0 := Aside0.mk hr
  have HRW : Hid (∀ W, Below w.heap.size w W → KSrc.C W A files.length files) := Lib.hid fun W h => Kd.C_below HR0.out h
  have HTF := Lib.hid (fun W (h : KSrc.C W A files.length files) => twinFiles_any A c files W h hc hm)
  have hpl : ∀ s ∈ files, s.f0.length ≤ 140737488351232 := fun s hs => by have := (hm.2 s hs).1; omega
  have HSA := Lib.hid (fun W (h : KMeta.K W m cs) (h' : KSrc.C W A files.length files) => Slice_any m cs A c files W h HG.out h' hc hm.1)
  have HPL := Lib.hid hpl
  have HM := Lib.hid hm
  clear hK hG hr hm hpl HR0
  go_enter Try.func8, Try.ntmps8
  have HFM := Lib.hid (fun W (h : KMeta.K W m cs) => Far.farMeta_any m cs W h)
  have HTM := Lib.hid (fun W (h : KMeta.K W m cs) => twinMeta_any m cs W h HG.out)
  go_wp2_with ((with_reducible refine Fl.wpList_load rfl 46 (.tmp 2) rfl (⟨w.heap.size, 0, none⟩) ?lx (cs) _ ?lc Try.underlying46 rfl ?li ?_); (case lx => rfl); (case lc => exact HX.out.load); (case li => exact HX.out.info))
  go_at_call 17
  refine (HFM.out _ HX.out.k).mono ?_
  rintro e w1 ⟨⟨bb, rfl⟩, hb1⟩
  replace HX := Aside0.mk (HX.out.below hb1)
  clear hb1
  clear HFM
  cases bb with
  | true =>
    go_wp2
    go_ret
    exact ⟨rfl, HX.out.bel⟩
  | false =>
    go_wp2_with fail
    go_at_call 37
    refine (HTF.out _ (HRW.out _ HX.out.bel)).mono ?_
    rintro e w2 ⟨A2, c2, rfl, hc2, hC2, hb2⟩
    replace HX := Aside0.mk (HX.out.below hb2)
    have HC2 := Aside0.mk hC2
    have HC2L := Lib.hid hc2
    clear hb2 hC2 hc2 HTF
    go_wp2_with ((with_reducible refine Fl.wpList_load rfl 46 (.tmp 2) rfl (⟨w.heap.size, 0, none⟩) ?lx (cs) _ ?lc Try.underlying46 rfl ?li ?_); (case lx => rfl); (case lc => exact HX.out.load); (case li => exact HX.out.info))
    go_at_call 18
    refine (HTM.out _ HX.out.k).mono ?_
    rintro e w3 ⟨ds, rfl, hM, hb3⟩
    have QC2 := Lib.hid (fun W (h : W = w3.alloc (.cells ds.toArray 46)) => (h ▸ Kd.C_alloc (Kd.C_below HC2.out hb3) _ : KSrc.C W A2 files.length files))
    have HY0 : Hid (∀ W, W = w3.alloc (.cells ds.toArray 46) → Bx w m w3.heap.size ds W) := Lib.hid (by rintro _ rfl; exact Bx.twin (below_step HX.out.bel hb3) hb3.size hb3 hM)
    have QHX := Lib.hid ((HX.out.below hb3).alloc_ (.cells ds.toArray 46))
    have hyk := HY0.out _ rfl
    have HSZ := Lib.hid (sizeM hyk.sz)
    have HI := Lib.hid hyk.info'
    have HO := Lib.hid (KMeta.K_one hyk.k)
    clear hyk hb3 hM HTM HX
    go_upto_region 5 with (((with_reducible refine Fl.wpList_store_fresh rfl 46 (.tmp 6) (.tmp 16) rfl 46 _ (ds).toArray ?sx ?sy ?si ?so ?s1 ?_); (case sx => rfl); (case sy => rfl); (case si => exact HI.out); (case so => exact HSZ.out); (case s1 => exact Fl.all_one HO.out)))
    obtain ⟨W3, h3⟩ : ∃ W, W = w3.alloc (.cells ds.toArray 46) := ⟨_, rfl⟩
    have HX := Aside0.mk (QHX.out _ h3)
    have HY := Aside0.mk (HY0.out _ h3)
    replace HC2 := Aside0.mk (QC2.out _ h3)
    clear QC2
    rw [← h3]
    clear h3 HY0 HSZ HI HO QHX
    generalize w3.heap.size = g at *
    have HRS := Lib.hid (fun W (h : KMeta.K W m ds) (h' : KSrc.C W A2 files.length files) => refSlice_any m ds A2 c2 files W h HG.out h' HC2L.out HM.out.1 HPL.out)
    have HSY := Lib.hid (fun W (h : KMeta.K W m cs) (h' : KMeta.K W m ds) => stays_any m cs ds W h h' HG.out)
    have HOK := Lib.hid (sliceR_ok files m)
    generalize (sliceR files m).1 = sl at *
    generalize (sliceR files m).2 = se at *
    go_wp2_with ((with_reducible refine Fl.wpList_load rfl 46 (.tmp 2) rfl (⟨w.heap.size, 0, none⟩) ?lx (cs) _ ?lc Try.underlying46 rfl ?li ?_); (case lx => rfl); (case lc => exact HX.out.load); (case li => exact HX.out.info))
    go_at_call 38
    refine (HSA.out _ HX.out.k (HRW.out _ HX.out.bel)).mono ?_
    rintro e w4 ⟨A4, c4, rfl, hc4, hC4, hb4⟩
    replace HX := Aside0.mk (HX.out.below hb4)
    replace HY := Aside0.mk (HY.out.below hb4)
    replace HC2 := Aside0.mk (Kd.C_below HC2.out hb4)
    have HC4 := Aside0.mk hC4
    have HC4L := Lib.hid hc4
    clear hb4 hC4 hc4 HSA
    go_wp2_with ((with_reducible refine Fl.wpList_load rfl 46 (.tmp 6) rfl (⟨g, 0, none⟩) ?lx (ds) _ ?lc Try.underlying46 rfl ?li ?_); (case lx => rfl); (case lc => exact HY.out.load); (case li => exact HY.out.info))
    go_at_call 39
    refine (HRS.out _ HY.out.k HC2.out).mono ?_
    rintro e w5 ⟨A5, c5, rfl, hc5, hC5, hb5⟩
    replace HX := Aside0.mk (HX.out.below hb5)
    replace HY := Aside0.mk (HY.out.below hb5)
    replace HC2 := Aside0.mk (Kd.C_below HC2.out hb5)
    replace HC4 := Aside0.mk (Kd.C_below HC4.out hb5)
    have HC5 := Aside0.mk hC5
    have HC5L := Lib.hid hc5
    clear hb5 hC5 hc5 HRS
    go_wp2_with fail
    go_at_call 32
    refine (piecesSame_any A4 c4 A5 c5 sl w5 HC4.out HC4L.out HC5.out HC5L.out HOK.out.1 HOK.out.2).mono ?_
    rintro e w6 ⟨rfl, hb6⟩
    replace HX := Aside0.mk (HX.out.below hb6)
    replace HY := Aside0.mk (HY.out.below hb6)
    replace HC2 := Aside0.mk (Kd.C_below HC2.out hb6)
    clear hb6 HC4 HC5
    go_wp2_with fail
    go_at_call 31
    refine (filesSame_any A c A2 c2 files w6 (HRW.out _ HX.out.bel) hc HC2.out HC2L.out HM.out).mono ?_
    rintro e w7 ⟨rfl, hb7⟩
    replace HX := Aside0.mk (HX.out.below hb7)
    replace HY := Aside0.mk (HY.out.below hb7)
    clear hb7 HC2
    go_wp2_with (first | ((with_reducible refine Fl.wpList_load_w 46 (.tmp 2) rfl ?lg (⟨w.heap.size, 0, none⟩) ?lx (cs) _ ?lc Try.underlying46 rfl ?li ?_); (case lg => rfl); (case lx => rfl); (case lc => exact HX.out.load); (case li => exact HX.out.info)) | ((with_reducible refine Fl.wpList_load_w 46 (.tmp 6) rfl ?lg (⟨g, 0, none⟩) ?lx (ds) _ ?lc Try.underlying46 rfl ?li ?_); (case lg => rfl); (case lx => rfl); (case lc => exact HY.out.load); (case li => exact HY.out.info)))
    go_at_call 27
    refine (HSY.out _ HX.out.k HY.out.k).mono ?_
    rintro e w12 ⟨rfl, hb12⟩
    go_wp2
    go_ret
    exact ⟨rfl, below_step HX.out.bel hb12⟩
end Cr
end Go.Proofs.Ytjeeakhgjcbhaaa
set_option linter.unusedVariables false
set_option linter.unusedSimpArgs false
namespace Go.Proofs.Ytjeeakhgjcbhaaa.LawCreateSlices
open Go.ChangeShapes Go.WideShapes Go.ChangeAt Go.RowKit Go.Proofs.YtjeeakhgjcbhaaaW.PrintWords
theorem own : ownKnob Try.prog.godebug = none := by kernel_rfl
theorem laidOut : laidOutB Try.prog = true := by kernel_rfl
open Go.Proofs.Ytjeeakhgjcbhaaa.Mt Go.Proofs.Ytjeeakhgjcbhaaa.Cr Go.Proofs.Ytjeeakhgjcbhaaa.PCreateSlices
theorem opens_src : Rw.Opens Try.prog 106 KSrc (fun s => s.f0.length * 16 ≤ reachBytes ∧ s.f1.length ≤ reachBytes) :=
  Rw.opens_map (Rw.opens_struct Try.underlying106 (by kernel_rfl) (Rw.opensF_cons rfl (by kernel_rfl) (Rw.opens_slice Try.underlying24 (by kernel_rfl) (Rw.opens_string Try.underlying9)) (Rw.opensF_one rfl (by kernel_rfl) (Rw.opens_slice Try.underlying103 (by kernel_rfl) (Rw.opens_int Try.underlying5)))))
    fun w x cs hK hG => ⟨⟨x.1, x.2⟩, hK, by
      have b1 : Try.prog.bytesOf 9 = 16 := by kernel_rfl
      have b2 : Try.prog.bytesOf 5 = 1 := by kernel_rfl
      have g1 := hG.1.1
      have g2 := hG.2.1
      rw [b1] at g1
      rw [b2, Nat.mul_one] at g2
      exact ⟨g1, g2⟩⟩
set_option maxRecDepth 100000 in
theorem lifted (os : Os) (started : os.Started) (H : Type) (enc : TypeId × Value → H) :
    ReturnsInHanded {} Try.checked os 8 .any (Rows.createSlicesSpec.pre6 enc Try.prog Try.f8 Rows.createSlicesRow.domain false) (Rows.createSlicesSpec.post enc Try.prog Try.f8 false true false false) := by
  refine Rw.lifted_law (tb := 4) own started (by kernel_rfl) Try.func8
    (ChangeSpec.witness6 (enc := enc) (C := Try.checked) false ⟨#[], #[.agg #[.string ⟨#[]⟩, .int .i64 0, .slice none 0 0, .slice none 0 0, .slice none 0 0, .slice none 0 0], .slice none 0 0], []⟩ 8 (by kernel_rfl) (by kernel_rfl) (by kernel_rfl) (by kernel_rfl)) laidOut (by kernel_rfl) rfl Try.underlying4 rfl ?_ ?_
  · intro ds hds
    rw [Try.params8] at hds
    match ds, hds with
    | [d0, d1], _ => rfl
  · intro W args ds p base hval hA hz
    rw [Try.params8] at hA hz hval
    obtain ⟨v0, vs0, ds0, p0, x0, hargs, hK0, hG0, hA1, hz1⟩ := Rw.open_arg opens_meta hA hz
    obtain ⟨v1, vs1, ds1, p1, x1, rfl, hK1, hG1, hA2, hz2⟩ := Rw.open_arg (Rw.opens_slice Try.underlying61 (by kernel_rfl) opens_src) hA1 hz1
    obtain rfl := Rw.open_end (args := args) hA2
    obtain rfl : args = #[v0, v1] := by cases args; simp_all
    obtain ⟨cs0, rfl, _⟩ := okWide_struct Try.underlying46 (hval 0 46 _ rfl rfl)
    obtain ⟨c0, rfl⟩ : ∃ c : List Value, cs0 = c.toArray := ⟨cs0.toList, by simp⟩
    replace hK0 : KMeta.K W x0 c0 := hK0
    obtain ⟨A1, c1, hK1', hc1, hr1⟩ := hK1
    obtain ⟨a1, n1, d1, rfl⟩ := okWide_slice Try.underlying61 (hval 1 61 _ rfl rfl)
    have e1 : [Value.slice a1 n1 d1] = [Value.slice A1 x1.length c1] := hK1'
    injection e1 with e1
    injection e1 with e1a e1b e1c
    subst e1a e1b e1c
    have hb1 : Try.prog.bytesOf 106 = 48 := by kernel_rfl
    obtain ⟨g1, g2⟩ := hG1
    rw [hb1] at g1
    unfold reachBytes at g1 g2
    exact slices_any _ _ _ _ _ W hK0 hG0 hr1 hc1 ⟨g1, g2⟩
theorem over : Rows.createSlicesRow.holds Try.pinned (OpenSpec.ofChange Rows.createSlicesSpec) :=
  OpenClaim.holds_of_wide 8 Try.f8 rfl rfl rfl rfl rfl rfl rfl ⟨rfl, rfl, rfl, rfl, rfl⟩ rfl rfl rfl rfl rfl (by kernel_rfl) Try.func8 (by kernel_rfl)
    (of_decide_eq_true (by kernel_rfl)) (by unfold Func.isWrapper; first | (rw [if_pos (by decide +kernel)]; kernel_rfl) | (rw [if_neg (by decide +kernel)]; exact ⟨rfl, rfl⟩))
    (fun os started H enc _ => lifted os started H enc)
/-- The statement. -/
theorem proved : Rows.CreateSlicesSaid := over
#print axioms proved
end Go.Proofs.Ytjeeakhgjcbhaaa.LawCreateSlices
