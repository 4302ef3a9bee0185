/- torrentref9.At. create.Where. torrentref9.Where. Plain: what create and the reference tell of a metainfo's places is one. (Row, Where, At) Plain: blocks of a piece; scales and piece lengths. One field of one element of a row of the call's own is written. Layer 9's law: stays of two metainfos that are one. Layer 2's far: how the reference counts a value: it answers, and only its count is another. Layer 2's far: whether a metainfo is beyond the bound: it answers, and all that was there is as it was. A law of layer 9: the metainfo that came in (in its box) and its twin, through the calls of the law's body. create.scaled, Blocks, Block. torrentref9.cut, Blocks, Block. create.places. slices.Equal at []string; slices.Clone at []byte and []string: wherever the rows lie. -/
import Derived.Test.YtjeeakhgjcbhaaaUCg0
import Derived.Lib.SmallJoins
import Derived.WalkSpells
import Derived.LaidEqlPtr
set_option linter.unusedVariables false
set_option linter.unusedSimpArgs false
namespace Go.Proofs.Ytjeeakhgjcbhaaa
open Go.RowKit Go.Proofs.YtjeeakhgjcbhaaaW.PrintWords Go.Proofs.YtjeeakhgjcbhaaaW Go.Proofs.YtjeeakhgjcbhaaaW.PrintMore
namespace Cr
open Wd Vl Mt
/-- The search for a byte among the places. -/
def findAt (file off : Int) : List PlD → Int → Int × Int × Int
  | [], _ => (0, 0, 93)
  | p :: l, i => if p.1 = file ∧ p.2.2.1 ≤ off ∧ off < wrap64 (p.2.2.1 + p.2.2.2) then (i, wrap64 (off - p.2.2.1), 0) else findAt file off l (i + 1)
theorem findAt_cons (file off : Int) (p : PlD) (l : List PlD) (i : Int) : findAt file off (p :: l) i = if p.1 = file ∧ p.2.2.1 ≤ off ∧ off < wrap64 (p.2.2.1 + p.2.2.2) then (i, wrap64 (off - p.2.2.1), 0) else findAt file off l (i + 1) := rfl
theorem findAt_nil (file off i : Int) : findAt file off [] i = (0, 0, 93) := rfl
def refAt (m : MetaD) (file off : Int) : Int × Int × Int := if cfault m = 0 then (if 0 ≤ file ∧ file < m.2.2.1.length then findAt file off (pls m.2.1 m.2.2.1 0) 0 else (0, 0, 90)) else (0, 0, cfault m)
set_option maxHeartbeats 4000000 in
set_option maxRecDepth 100000 in
theorem refAt_any (m : MetaD) (cs : List Value) (file off : Int) (w : World) (hK : KMeta.K w m cs) (hG : GMeta m) :
    Calls Try.prog 26 #[.agg cs.toArray, .int .i64 file, .int .i64 off] w fun e w' => e = .returned (.tuple #[.int .i64 (refAt m file off).1, .int .i64 (refAt m file off).2.1, .int .i64 (refAt m file off).2.2]) ∧ Below w.heap.size w w' := by
  obtain ⟨AF, cF, AL, cL, AI, cI, AT, cT, rfl, hF, _⟩ := meta_open hK
  have q1 : m.2.2.1.length * 88 ≤ 140737488351232 := hG.2.1.1
  have HF := Aside0.mk hF
  have HK := Aside0.mk hK
  have HB0 : Aside0 (Below w.heap.size w (w.alloc (.cells #[.string m.1, .int .i64 m.2.1, .slice AF m.2.2.1.length cF, .slice AL m.2.2.2.1.length cL, .slice AI m.2.2.2.2.1.length cI, .slice AT m.2.2.2.2.2.length cT] 46))) := ⟨below_alloc (Below.refl w.heap.size w) (.cells #[.string m.1, .int .i64 m.2.1, .slice AF m.2.2.1.length cF, .slice AL m.2.2.2.1.length cL, .slice AI m.2.2.2.2.1.length cI, .slice AT m.2.2.2.2.2.length cT] 46)⟩
  have HX0 : Aside0 ((w.alloc (.cells #[.string m.1, .int .i64 m.2.1, .slice AF m.2.2.1.length cF, .slice AL m.2.2.2.1.length cL, .slice AI m.2.2.2.2.1.length cI, .slice AT m.2.2.2.2.2.length cT] 46)).heap[w.heap.size]? = some (.cells #[.string m.1, .int .i64 m.2.1, .slice AF m.2.2.1.length cF, .slice AL m.2.2.2.1.length cL, .slice AI m.2.2.2.2.1.length cI, .slice AT m.2.2.2.2.2.length cT] 46)) := ⟨heap_alloc_new w _⟩
  have HZ : Hid (∀ j u, ([.string m.1, .int .i64 m.2.1, .slice AF m.2.2.1.length cF, .slice AL m.2.2.2.1.length cL, .slice AI m.2.2.2.2.1.length cI, .slice AT m.2.2.2.2.2.length cT] : List Value)[j]? = some u → (w.alloc (.cells #[.string m.1, .int .i64 m.2.1, .slice AF m.2.2.1.length cF, .slice AL m.2.2.2.1.length cL, .slice AI m.2.2.2.2.1.length cI, .slice AT m.2.2.2.2.2.length cT] 46)).cell? ((⟨w.heap.size, 0, none⟩ : Addr).add j) = some u) := Lib.hid fun j u hj => by rw [Go.WideShapes.add_plain, Go.Joins.cell_of_block HX0.out, List.getElem?_toArray, Nat.zero_add]; exact hj
  have HG := Lib.hid hG
  have HFA := Lib.hid (refFault_any m _ _ (KMeta.K_below HB0.out hK) hG)
  clear hF hK hG
  go_enter Try.func26, Try.ntmps26
  go_wp2_with ((with_reducible refine Fl.wpList_load rfl 46 (.tmp 3) rfl (⟨w.heap.size, 0, none⟩) ?lx ([.string m.1, .int .i64 m.2.1, .slice AF m.2.2.1.length cF, .slice AL m.2.2.2.1.length cL, .slice AI m.2.2.2.2.1.length cI, .slice AT m.2.2.2.2.2.length cT]) _ ?lc Try.underlying46 rfl ?li ?_); (case lx => rfl); (case lc => exact HZ.out); (case li => exact (by kernel_rfl)))
  go_at_call 56
  refine HFA.out.mono ?_
  rintro e wr ⟨rfl, hb1⟩
  have HX := Aside0.mk (blk_below HX0.out hb1)
  have HB := Aside0.mk (below_step HB0.out hb1)
  have HZ2 : Hid (∀ j u, ([.string m.1, .int .i64 m.2.1, .slice AF m.2.2.1.length cF, .slice AL m.2.2.2.1.length cL, .slice AI m.2.2.2.2.1.length cI, .slice AT m.2.2.2.2.2.length cT] : List Value)[j]? = some u → wr.cell? ((⟨w.heap.size, 0, none⟩ : Addr).add j) = some u) := Lib.hid fun j u hj => by rw [Go.WideShapes.add_plain, Go.Joins.cell_of_block HX.out, List.getElem?_toArray, Nat.zero_add]; exact hj
  clear hb1 HX0 HB0 HZ HFA
  have hx2 : wr.cell? ⟨w.heap.size, 2, none⟩ = some (.slice AF m.2.2.1.length cF) := Go.Joins.cell_of_block HX.out 2
  by_cases hf : cfault m = 0
  · by_cases h0 : file < 0
    · have b0 : decide (file < 0) = true := decide_eq_true h0
      have e1 : refAt m file off = (0, 0, 90) := by unfold refAt; rw [if_pos hf, if_neg (by omega)]
      have E1 := Lib.hid e1
      clear e1
      rw [hf]
      go_wp2
      go_ret3
      exact ⟨by rw [E1.out]; rfl, HB.out⟩
    · have b0 : decide (file < 0) = false := decide_eq_false h0
      by_cases h1 : file ≥ m.2.2.1.length
      · have b1 : decide (file ≥ (m.2.2.1.length : Int)) = true := decide_eq_true h1
        have e1 : refAt m file off = (0, 0, 90) := by unfold refAt; rw [if_pos hf, if_neg (by omega)]
        have E1 := Lib.hid e1
        clear e1
        rw [hf]
        go_wp2
        go_ret3
        exact ⟨by rw [E1.out]; rfl, HB.out⟩
      · have b1 : decide (file ≥ (m.2.2.1.length : Int)) = false := decide_eq_false h1
        have e1 : refAt m file off = findAt file off (pls m.2.1 m.2.2.1 0) 0 := by unfold refAt; rw [if_pos hf, if_pos (by omega)]
        have E1 := Lib.hid e1
        have HPL := Lib.hid (refPlaces_any m _ wr (KMeta.K_below HB.out HK.out) HG.out hf)
        have hmany := (cfault_ok hf).2.2.2.2.2
        clear e1
        rw [hf]
        go_wp2_with ((with_reducible refine Fl.wpList_load rfl 46 (.tmp 3) rfl (⟨w.heap.size, 0, none⟩) ?lx ([.string m.1, .int .i64 m.2.1, .slice AF m.2.2.1.length cF, .slice AL m.2.2.2.1.length cL, .slice AI m.2.2.2.2.1.length cI, .slice AT m.2.2.2.2.2.length cT]) _ ?lc Try.underlying46 rfl ?li ?_); (case lx => rfl); (case lc => exact HZ2.out); (case li => exact (by kernel_rfl)))
        go_at_call 57
        refine HPL.out.mono ?_
        rintro e w2 ⟨A, c, rfl, hR, hb2⟩
        have HR := Aside0.mk hR
        have HB2 := Aside0.mk (below_step HB.out hb2)
        clear hR hb2 hf HPL h0 h1 b0 b1
        generalize pls m.2.1 m.2.2.1 0 = L at *
        go_wp2
        go_loopw [11] (fun i wz => ∃ k q : Nat, k ≤ L.length ∧ i = .int .i64 k ∧ Hid (findAt file off (L.drop k) k = findAt file off L 0) ∧ wz = w2.drewN q) (fun i _ => L.length - (intOf i).toNat)
        case atStart => exact ⟨0, 0, by omega, rfl, Lib.hid rfl, rfl⟩
        case round =>
          obtain ⟨k, q, hk, rfl, HA, rfl⟩ := hrel
          by_cases hlt : k < L.length
          · skip
            obtain ⟨ad, e0, hc⟩ := Fl.at_flat (0, 0, 0, 0) HR.out k hlt
            subst e0
            have hc0 : w2.cell? (ad.add (k * 4)) = some (.int .i64 (L.getD k (0, 0, 0, 0)).1) := hc 0 _ rfl
            have hc2 : w2.cell? ⟨(ad.add (k * 4)).block, (ad.add (k * 4)).off + 2, none⟩ = some (.int .i64 (L.getD k (0, 0, 0, 0)).2.2.1) := Fl.fcell 2 (by omega) (hc 2 _ rfl)
            have hc3 : w2.cell? ⟨(ad.add (k * 4)).block, (ad.add (k * 4)).off + 3, none⟩ = some (.int .i64 (L.getD k (0, 0, 0, 0)).2.2.2) := Fl.fcell 3 (by omega) (hc 3 _ rfl)
            have hd : L.drop k = L.getD k (0, 0, 0, 0) :: L.drop (k + 1) := by rw [List.drop_eq_getElem_cons hlt, List.getD_eq_getElem?_getD, List.getElem?_eq_getElem hlt]; rfl
            have hA := HA.out
            rw [hd, findAt_cons] at hA
            have HA2 := Lib.hid hA
            clear hc hA hd HA
            generalize L.getD k (0, 0, 0, 0) = p at *
            by_cases h1 : p.1 = file
            · have b1 : (p.1 == file) = true := beq_iff_eq.2 h1
              by_cases h2 : p.2.2.1 ≤ off
              · have b2 : decide (p.2.2.1 ≤ off) = true := decide_eq_true h2
                by_cases h3 : off < wrap64 (p.2.2.1 + p.2.2.2)
                · have b3 : decide (off < wrap64 (p.2.2.1 + p.2.2.2)) = true := decide_eq_true h3
                  have E2 := Lib.hid (E1.out.trans (HA2.out.symm.trans (if_pos ⟨h1, h2, h3⟩)))
                  clear h1
                  go_wp2_with fail
                  go_quiet (fail)
                  go_wp2
                  go_quiet (fail)
                  go_wp2
                  go_ret3
                  exact ⟨by rw [E2.out]; rfl, below_drewN (below_drewN (below_drewN HB2.out _) _) _⟩
                · have b3 : decide (off < wrap64 (p.2.2.1 + p.2.2.2)) = false := decide_eq_false h3
                  have E2 := Lib.hid ((if_neg (fun h => h3 h.2.2)).symm.trans HA2.out)
                  clear h1
                  go_wp2_with fail
                  go_quiet (fail)
                  go_wp2
                  go_roundw
                  case rel => exact ⟨k + 1, q + nq, by omega, by go_num, Lib.hid (by rw [Int.natCast_add]; exact E2.out), by first | rfl | rw [World.drewN_drewN]⟩
                  case measure => simp [intOf]; omega
              · have b2 : decide (p.2.2.1 ≤ off) = false := decide_eq_false h2
                have E2 := Lib.hid ((if_neg (fun h => h2 h.2.1)).symm.trans HA2.out)
                clear h1
                go_wp2_with fail
                go_quiet (fail)
                go_wp2
                go_roundw
                case rel => exact ⟨k + 1, q + nq, by omega, by go_num, Lib.hid (by rw [Int.natCast_add]; exact E2.out), by first | rfl | rw [World.drewN_drewN]⟩
                case measure => simp [intOf]; omega
            · have b1 : (p.1 == file) = false := beq_eq_false_iff_ne.2 h1
              have E2 := Lib.hid ((if_neg (fun h => h1 h.1)).symm.trans HA2.out)
              go_wp2_with fail
              go_quiet (fail)
              go_wp2
              go_roundw
              case rel => exact ⟨k + 1, q + nq, by omega, by go_num, Lib.hid (by rw [Int.natCast_add]; exact E2.out), by first | rfl | rw [World.drewN_drewN]⟩
              case measure => simp [intOf]; omega
          · have hA := HA.out
            rw [show k = L.length by omega, List.drop_length, findAt_nil] at hA
            have E2 := Lib.hid (E1.out.trans hA.symm)
            clear hA
            go_wp2
            go_ret3
            exact ⟨by rw [E2.out]; rfl, below_drewN HB2.out _⟩
  · have e1 : refAt m file off = (0, 0, cfault m) := by unfold refAt; rw [if_neg hf]
    have E1 := Lib.hid e1
    clear e1
    have b1 : (cfault m == 0) = false := by simp [hf]
    have b2 : (cfault m != 0) = true := by simp [hf]
    go_wp2
    go_ret3
    exact ⟨by rw [E1.out]; rfl, HB.out⟩
end Cr
end Go.Proofs.Ytjeeakhgjcbhaaa
set_option linter.unusedVariables false
set_option linter.unusedSimpArgs false
namespace Go.Proofs.Ytjeeakhgjcbhaaa
open Go.RowKit Go.Proofs.YtjeeakhgjcbhaaaW.PrintWords Go.Proofs.YtjeeakhgjcbhaaaW Go.Proofs.YtjeeakhgjcbhaaaW.PrintMore
namespace Cr
attribute [local go_sem] max2_int min2_int max_two min_two max_three min_three max_four min_four
open Wd Vl Mt PCreateBlocks
theorem four_one (a b c d : Int) : (#[.int .i64 a, .int .i64 b, .int .i64 c, .int .i64 d] : Array Value).all (·.oneCell') = true :=
  Fl.all_one (cs := [.int .i64 a, .int .i64 b, .int .i64 c, .int .i64 d]) (by intro u hu; simp at hu; rcases hu with rfl | rfl | rfl | rfl <;> rfl)
/-- Where a piece lies: its file, its place there, its first byte, its length. -/
def cwhere (pl : Int) : List FileD → Int → Int → Option (Int × Int × Int × Int)
  | [], _, _ => none
  | f :: l, i, nth => if nth < cP f.2.1 pl then some (i, nth, wrap64 (nth * pl), mn pl (wrap64 (f.2.1 - wrap64 (nth * pl)))) else cwhere pl l (i + 1) (wrap64 (nth - cP f.2.1 pl))
theorem cwhere_nil (pl i nth : Int) : cwhere pl [] i nth = none := rfl
theorem cwhere_cons (pl : Int) (f : FileD) (l : List FileD) (i nth : Int) : cwhere pl (f :: l) i nth = if nth < cP f.2.1 pl then some (i, nth, wrap64 (nth * pl), mn pl (wrap64 (f.2.1 - wrap64 (nth * pl)))) else cwhere pl l (i + 1) (wrap64 (nth - cP f.2.1 pl)) := rfl
def WhereR (m : MetaD) (piece : Int) : Int × Int × Int × Int × Int := if cfault m = 0 then (if piece < 0 then (0, 0, 0, 0, 91) else (match cwhere m.2.1 m.2.2.1 0 piece with | some (a, b, c, d) => (a, b, c, d, 0) | none => (0, 0, 0, 0, 91))) else (0, 0, 0, 0, cfault m)
set_option maxHeartbeats 4000000 in
set_option maxRecDepth 100000 in
theorem Where_any (m : MetaD) (cs : List Value) (piece : Int) (w : World) (hK : KMeta.K w m cs) (hG : GMeta m) :
    Calls Try.prog 23 #[.agg cs.toArray, .int .i64 piece] w fun e w' => e = .returned (.tuple #[.agg #[.int .i64 (WhereR m piece).1, .int .i64 (WhereR m piece).2.1, .int .i64 (WhereR m piece).2.2.1, .int .i64 (WhereR m piece).2.2.2.1], .int .i64 (WhereR m piece).2.2.2.2]) ∧ Below w.heap.size w w' := by
  obtain ⟨AF, cF, AL, cL, AI, cI, AT, cT, rfl, hF, _⟩ := meta_open hK
  have q1 : m.2.2.1.length * 88 ≤ 140737488351232 := hG.2.1.1
  have HF := Aside0.mk hF
  have HK := Aside0.mk hK
  have HB0 : Aside0 (Below w.heap.size w ((w.alloc (.cells #[.string m.1, .int .i64 m.2.1, .slice AF m.2.2.1.length cF, .slice AL m.2.2.2.1.length cL, .slice AI m.2.2.2.2.1.length cI, .slice AT m.2.2.2.2.2.length cT] 46)).alloc (.cells #[.int .i64 0, .int .i64 0, .int .i64 0, .int .i64 0] 53))) := ⟨below_alloc (below_alloc (Below.refl w.heap.size w) (.cells #[.string m.1, .int .i64 m.2.1, .slice AF m.2.2.1.length cF, .slice AL m.2.2.2.1.length cL, .slice AI m.2.2.2.2.1.length cI, .slice AT m.2.2.2.2.2.length cT] 46)) (.cells #[.int .i64 0, .int .i64 0, .int .i64 0, .int .i64 0] 53)⟩
  have HX0 : Aside0 (((w.alloc (.cells #[.string m.1, .int .i64 m.2.1, .slice AF m.2.2.1.length cF, .slice AL m.2.2.2.1.length cL, .slice AI m.2.2.2.2.1.length cI, .slice AT m.2.2.2.2.2.length cT] 46)).alloc (.cells #[.int .i64 0, .int .i64 0, .int .i64 0, .int .i64 0] 53)).heap[w.heap.size]? = some (.cells #[.string m.1, .int .i64 m.2.1, .slice AF m.2.2.1.length cF, .slice AL m.2.2.2.1.length cL, .slice AI m.2.2.2.2.1.length cI, .slice AT m.2.2.2.2.2.length cT] 46)) := ⟨blk_alloc (heap_alloc_new w _) _⟩
  have HR0 : Aside0 (((w.alloc (.cells #[.string m.1, .int .i64 m.2.1, .slice AF m.2.2.1.length cF, .slice AL m.2.2.2.1.length cL, .slice AI m.2.2.2.2.1.length cI, .slice AT m.2.2.2.2.2.length cT] 46)).alloc (.cells #[.int .i64 0, .int .i64 0, .int .i64 0, .int .i64 0] 53)).heap[w.heap.size + 1]? = some (.cells #[.int .i64 0, .int .i64 0, .int .i64 0, .int .i64 0] 53)) := ⟨by have := heap_alloc_new (w.alloc (.cells #[.string m.1, .int .i64 m.2.1, .slice AF m.2.2.1.length cF, .slice AL m.2.2.2.1.length cL, .slice AI m.2.2.2.2.1.length cI, .slice AT m.2.2.2.2.2.length cT] 46)) (.cells #[.int .i64 0, .int .i64 0, .int .i64 0, .int .i64 0] 53); rwa [World.size_alloc] at this⟩
  have HZ : Hid (∀ j u, ([.string m.1, .int .i64 m.2.1, .slice AF m.2.2.1.length cF, .slice AL m.2.2.2.1.length cL, .slice AI m.2.2.2.2.1.length cI, .slice AT m.2.2.2.2.2.length cT] : List Value)[j]? = some u → ((w.alloc (.cells #[.string m.1, .int .i64 m.2.1, .slice AF m.2.2.1.length cF, .slice AL m.2.2.2.1.length cL, .slice AI m.2.2.2.2.1.length cI, .slice AT m.2.2.2.2.2.length cT] 46)).alloc (.cells #[.int .i64 0, .int .i64 0, .int .i64 0, .int .i64 0] 53)).cell? ((⟨w.heap.size, 0, none⟩ : Addr).add j) = some u) := Lib.hid fun j u hj => by rw [Go.WideShapes.add_plain, Go.Joins.cell_of_block HX0.out, List.getElem?_toArray, Nat.zero_add]; exact hj
  have HFA := Lib.hid (fault_any m _ _ (KMeta.K_below HB0.out hK) hG)
  clear hF hK hG
  go_enter Try.func23, Try.ntmps23
  go_wp2_with ((with_reducible refine Fl.wpList_load rfl 46 (.tmp 2) rfl (⟨w.heap.size, 0, none⟩) ?lx ([.string m.1, .int .i64 m.2.1, .slice AF m.2.2.1.length cF, .slice AL m.2.2.2.1.length cL, .slice AI m.2.2.2.2.1.length cI, .slice AT m.2.2.2.2.2.length cT]) _ ?lc Try.underlying46 rfl ?li ?_); (case lx => rfl); (case lc => exact HZ.out); (case li => exact (by kernel_rfl)))
  go_at_call 53
  refine HFA.out.mono ?_
  rintro e wr ⟨rfl, hb1⟩
  have HX := Aside0.mk (blk_below HX0.out hb1)
  have HR := Aside0.mk (blk_below HR0.out hb1)
  have HB := Aside0.mk (below_step HB0.out hb1)
  clear hb1 HX0 HR0 HB0 HZ HFA
  have hx2 : wr.cell? ⟨w.heap.size, 2, none⟩ = some (.slice AF m.2.2.1.length cF) := Go.Joins.cell_of_block HX.out 2
  by_cases hf : cfault m = 0
  · have hpl : m.2.1 ≠ 0 := cfault_pl hf
    rw [hf]
    by_cases h0 : piece < 0
    · have b0 : decide (piece < 0) = true := decide_eq_true h0
      have e1 : WhereR m piece = (0, 0, 0, 0, 91) := by unfold WhereR; rw [if_pos hf, if_pos h0]
      have E1 := Lib.hid e1
      clear e1
      have hr6 := setRow_heap wr (w.heap.size + 1) _ (#[.int .i64 0, .int .i64 0, .int .i64 0, .int .i64 0]) 53 (0, 0) HR.out
      have hb6 := below_setRowL HB.out (show w.heap.size ≤ w.heap.size + 1 by omega) (#[.int .i64 0, .int .i64 0, .int .i64 0, .int .i64 0])
      go_wp2_with (first | ((with_reducible refine Fl.wpList_build_to rfl 53 _ rfl (#[.int .i64 0, .int .i64 0, .int .i64 0, .int .i64 0]) ?bf ?_); (case bf => kernel_rfl)) | ((with_reducible refine wpList_store_row rfl 53 (.tmp 4) (.tmp 20) rfl (w.heap.size + 1) (#[.int .i64 0, .int .i64 0, .int .i64 0, .int .i64 0]) ?sx ?sy 53 _ HR.out ?si rfl ?s1 ?_); (case sx => rfl); (case sy => rfl); (case si => kernel_rfl); (case s1 => exact four_one _ _ _ _)))
      refine bodyPost_ret (results_ct rfl _ _ (w.heap.size + 1) 53 _ (0, 0) _ rfl hr6 Try.underlying53 rfl (by kernel_rfl)) rfl ?_
      exact ⟨by rw [E1.out]; rfl, hb6⟩
    · have b0 : decide (piece < 0) = false := decide_eq_false h0
      have e1 : WhereR m piece = (match cwhere m.2.1 m.2.2.1 0 piece with | some (a, b, c, d) => (a, b, c, d, 0) | none => (0, 0, 0, 0, 91)) := by unfold WhereR; rw [if_pos hf, if_neg h0]
      have E1 := Lib.hid e1
      clear e1
      go_wp2
      go_loopw [7, 25] (fun n i wz => ∃ (k : Nat) (nth : Int), k ≤ m.2.2.1.length ∧ i = .int .i64 k ∧ n = .int .i64 nth ∧ Hid (cwhere m.2.1 (m.2.2.1.drop k) k nth = cwhere m.2.1 m.2.2.1 0 piece) ∧ Aside0 (wz.heap[w.heap.size]? = some (.cells #[.string m.1, .int .i64 m.2.1, .slice AF m.2.2.1.length cF, .slice AL m.2.2.2.1.length cL, .slice AI m.2.2.2.2.1.length cI, .slice AT m.2.2.2.2.2.length cT] 46)) ∧ Aside0 (wz.heap[w.heap.size + 1]? = some (.cells #[.int .i64 0, .int .i64 0, .int .i64 0, .int .i64 0] 53)) ∧ Aside0 (Below w.heap.size w wz)) (fun n i _ => m.2.2.1.length - (intOf i).toNat)
      case atStart => exact ⟨0, piece, by omega, rfl, rfl, Lib.hid rfl, HX, HR, HB⟩
      case round =>
        clear HX HR HB hx2
        obtain ⟨k, nth, hk, rfl, rfl, HC, HX, HR, HB⟩ := hrel
        by_cases hlt : k < m.2.2.1.length
        · have hd : m.2.2.1.drop k = m.2.2.1.getD k f0 :: m.2.2.1.drop (k + 1) := by rw [List.drop_eq_getElem_cons hlt, List.getD_eq_getElem?_getD, List.getElem?_eq_getElem hlt]; rfl
          have hc := HC.out
          rw [hd] at hc
          rw [cwhere_cons] at hc
          obtain ⟨ad, cs, e0, hl35, hfk, hcs⟩ := at_file HF.out k hlt
          subst e0
          change KFile.K w (m.2.2.1.getD k f0) cs at hfk
          generalize m.2.2.1.getD k f0 = f at *
          have hf' := hfk
          obtain ⟨P, p, MM, q, rfl, _⟩ := file_open hfk
          have HY : Hid (∀ j u, (encF (.slice P f.1.length p) f.2.1 f.2.2.1 (.slice MM f.2.2.2.length q))[j]? = some u → wr.cell? ((ad.add (k * 35)).add j) = some u) := Lib.hid fun j u hj => by
            rw [Go.Deep.add_add]
            exact cell_stay HB.out (hcs j u hj)
          have HKF := Aside0.mk hf'
          have HZF := Lib.hid (zF_hold (.slice P f.1.length p) f.2.1 f.2.2.1 (.slice MM f.2.2.2.length q))
          have HC2 := Lib.hid hc
          clear hfk hf' hcs hl35 hd hc HC
          go_upto_region 9 with fail
          go_wp2_with (first | ((with_reducible refine Fl.wpList_load rfl 93 (.tmp 28) rfl (ad.add (k * 35)) ?lx (encF (.slice P f.1.length p) f.2.1 f.2.2.1 (.slice MM f.2.2.2.length q)) _ ?lc Try.underlying93 rfl ?li ?_); (case lx => rfl); (case lc => exact HY.out); (case li => exact (sizeF (encF_len _ _ _ _)))) | ((with_reducible refine Fl.wpList_store_fresh rfl 93 (.tmp 9) (.tmp 29) rfl 93 _ (encF (.slice P f.1.length p) f.2.1 f.2.2.1 (.slice MM f.2.2.2.length q)).toArray ?sx ?sy ?si ?so ?s1 ?_); (case sx => rfl); (case sy => rfl); (case si => exact (sizeF' (encF_len _ _ _ _))); (case so => exact HZF.out); (case s1 => exact Fl.all_one encF_one)))
          have hgf := heap_alloc_new wr (.cells (encF (.slice P f.1.length p) f.2.1 f.2.2.1 (.slice MM f.2.2.2.length q)).toArray 93)
          have hba := below_alloc (Below.refl wr.heap.size wr) (.cells (encF (.slice P f.1.length p) f.2.1 f.2.2.1 (.slice MM f.2.2.2.length q)).toArray 93)
          replace HX := Aside0.mk (blk_below HX.out hba)
          replace HR := Aside0.mk (blk_below HR.out hba)
          replace HB := Aside0.mk (below_step HB.out hba)
          clear hba HY
          generalize wr.alloc (.cells (encF (.slice P f.1.length p) f.2.1 f.2.2.1 (.slice MM f.2.2.2.length q)).toArray 93) = wf at *
          generalize wr.heap.size = gf at *
          have HFF := Aside0.mk hgf
          clear hgf
          refine PrintLast.start_ (n := 5) (S := fun w' => Below wf.heap.size wf w') (ds := []) #[false, false, false, false, false] (by kernel_rfl) rfl rfl (below_drew1 (Below.refl _ _)) (fun hHeld => ?_)
          generalize wf.drew = W0 at *
          refine PrintLast.take_ (i := 0) (N := some 30) (v := .agg (#[.string m.1, .int .i64 m.2.1, .slice (some ad) m.2.2.1.length cF, .slice AL m.2.2.2.1.length cL, .slice AI m.2.2.2.2.1.length cI, .slice AT m.2.2.2.2.2.length cT] : Array Value)) (a' := ?_) #[true, false, false, false, false] rfl rfl (by kernel_rfl) (fun _ _ _ h => h) (Or.inl ⟨by rfl, ?_⟩) hHeld ?_ ?_
          skip
          · intro w' s0
            exact Fl.exec_load (ty := 46) (x := .tmp 2) (ad := ⟨w.heap.size, 0, none⟩) (cs := (#[.string m.1, .int .i64 m.2.1, .slice (some ad) m.2.2.1.length cF, .slice AL m.2.2.2.1.length cL, .slice AI m.2.2.2.2.1.length cI, .slice AT m.2.2.2.2.2.length cT] : Array Value)) (by rfl) (by rfl) (Fl.run_load (cs := [.string m.1, .int .i64 m.2.1, .slice (some ad) m.2.2.1.length cF, .slice AL m.2.2.2.1.length cL, .slice AI m.2.2.2.2.1.length cI, .slice AT m.2.2.2.2.2.length cT]) (fun j u hj => cell_stay s0 (by rw [Go.WideShapes.add_plain, Go.Joins.cell_of_block HX.out, List.getElem?_toArray, Nat.zero_add]; exact hj)) Try.underlying46 rfl (by kernel_rfl))
          rotate_left
          · simp only [Act.put, List.setIfInBounds_toArray, List.set_cons_zero, List.set_cons_succ]
            rfl
          refine PrintLast.take_ (i := 2) (N := some 32) (v := .agg (encF (.slice P f.1.length p) f.2.1 f.2.2.1 (.slice MM f.2.2.2.length q)).toArray) (a' := ?_) #[true, false, true, false, false] rfl rfl (by kernel_rfl) (fun _ _ _ h => h) (Or.inl ⟨by rfl, ?_⟩) hHeld ?_ ?_
          skip
          · intro w' s0
            exact Fl.exec_load (ty := 93) (x := .tmp 9) (ad := ⟨gf, 0, none⟩) (cs := (encF (.slice P f.1.length p) f.2.1 f.2.2.1 (.slice MM f.2.2.2.length q)).toArray) (by rfl) (by rfl) (Fl.run_load (cs := encF (.slice P f.1.length p) f.2.1 f.2.2.1 (.slice MM f.2.2.2.length q)) (fun j u hj => cell_stay s0 (by rw [Go.WideShapes.add_plain, Go.Joins.cell_of_block HFF.out, List.getElem?_toArray, Nat.zero_add]; exact hj)) Try.underlying93 rfl (sizeF (encF_len _ _ _ _)))
          rotate_left
          · simp only [Act.put, List.setIfInBounds_toArray, List.set_cons_zero, List.set_cons_succ]
            rfl
          refine PrintLast.one_ (i := 1) (N := some 31) #[true, true, true, false, false] rfl rfl (by kernel_rfl) (by decide) (fun K hK => ?_)
          refine PrintLast.goes_ Try.func55 (by kernel_rfl) rfl #[.agg (#[.string m.1, .int .i64 m.2.1, .slice (some ad) m.2.2.1.length cF, .slice AL m.2.2.2.1.length cL, .slice AI m.2.2.2.2.1.length cI, .slice AT m.2.2.2.2.2.length cT] : Array Value)] (by rfl) rfl rfl (by simp only [List.map_toArray, List.map_cons, List.map_nil]; rfl) ?_
          refine (pieces_any m _ _ (KMeta.K_below (below_step HB.out hHeld) HK.out)).mono ?_
          rintro e W1 ⟨rfl, hpc, hst⟩
          have hst1 := below_step hHeld hst
          refine ⟨_, rfl, ?_⟩
          refine hK.out _ _ hst1 (fun hHeld => ?_)
          clear hK K
          refine PrintLast.norm_ (a' := ?_) ?_ ?_
          rotate_left
          · show Act.put _ (some 31) _ = _
            simp only [Act.put, List.setIfInBounds_toArray, List.set_cons_zero, List.set_cons_succ]
            rfl
          clear hst
          obtain ⟨gq, hgq⟩ : ∃ gp, gp = W0.heap.size := ⟨_, rfl⟩
          rw [← hgq] at hpc ⊢
          clear hgq
          refine PrintLast.one_ (i := 3) (N := some 33) #[true, true, true, true, false] rfl rfl (by kernel_rfl) (by decide) (fun K hK => ?_)
          refine PrintLast.call_ 83 #[.agg (encF (.slice P f.1.length p) f.2.1 f.2.2.1 (.slice MM f.2.2.2.length q)).toArray, .pointer (some ⟨gq, 0, none⟩)] (by rfl) rfl ?_ ?_
          · have he := PrintLast.enters_ (P := Try.prog) Try.func83 (by kernel_rfl) rfl #[.agg (encF (.slice P f.1.length p) f.2.1 f.2.2.1 (.slice MM f.2.2.2.length q)).toArray, .pointer (some ⟨gq, 0, none⟩)] W1
            unfold execOp
            simp [resolve, Deferred.ofValue, invoke, Act.eval, he]
          refine (pieces1_any f _ gq m.2.1 _ (KFile.K_below (below_step HB.out hHeld) HKF.out) hpc hpl).mono ?_
          rintro e W2 ⟨rfl, hst⟩
          have hst2 := below_step hHeld hst
          refine ⟨_, rfl, ?_⟩
          refine hK.out _ _ hst2 (fun hHeld => ?_)
          clear hK K
          refine PrintLast.norm_ (a' := ?_) ?_ ?_
          rotate_left
          · show Act.put _ (some 33) _ = _
            simp only [Act.put, List.setIfInBounds_toArray, List.set_cons_zero, List.set_cons_succ]
            rfl
          clear hst
          refine PrintLast.pure_ (i := 4) (N := some 10) (v := ?_) (a' := ?_) #[true, true, true, true, true] rfl rfl (by kernel_rfl) (fun _ _ _ h => h) (Or.inl ⟨by rfl, ?_⟩) ?_ ?_
          rotate_left
          · intro w'
            go_simp
            with_reducible rfl
          rotate_left
          · simp only [Act.put, List.setIfInBounds_toArray, List.set_cons_zero, List.set_cons_succ]
            rfl
          refine PrintLast.done_ (by kernel_rfl) ?_
          have HX2 := Aside0.mk (blk_below HX.out hHeld)
          have HR2 := Aside0.mk (blk_below HR.out hHeld)
          have HB2 := Aside0.mk (below_step HB.out hHeld)
          have HF2 := Aside0.mk (blk_below HFF.out hHeld)
          clear HX HR HB HFF hHeld hpc hst1 hst2
          have HR := HR2
          have HB := HB2
          have hx1 : W2.cell? ⟨w.heap.size, 1, none⟩ = some (.int .i64 m.2.1) := Go.Joins.cell_of_block HX2.out 1
          have hfl : W2.cell? ⟨gf, 1, none⟩ = some (.int .i64 f.2.1) := Go.Joins.cell_of_block HF2.out 1
          by_cases hn : nth < cP f.2.1 m.2.1
          · have bn : decide (nth < cP f.2.1 m.2.1) = true := decide_eq_true hn
            have hc := HC2.out
            rw [if_pos hn] at hc
            have e2 := E1.out
            rw [← hc] at e2
            have E2 := Lib.hid e2
            clear hc e2
            have hr6 := setRow_heap W2 (w.heap.size + 1) _ (#[.int .i64 k, .int .i64 nth, .int .i64 (wrap64 (nth * m.2.1)), .int .i64 (mn m.2.1 (wrap64 (f.2.1 - wrap64 (nth * m.2.1))))]) 53 (0, 0) HR.out
            have hb6 := below_setRowL HB.out (show w.heap.size ≤ w.heap.size + 1 by omega) (#[.int .i64 k, .int .i64 nth, .int .i64 (wrap64 (nth * m.2.1)), .int .i64 (mn m.2.1 (wrap64 (f.2.1 - wrap64 (nth * m.2.1))))])
            generalize cP f.2.1 m.2.1 = n at *
            go_wp2_with (first | ((with_reducible refine Fl.wpList_build_to rfl 53 _ rfl (#[.int .i64 k, .int .i64 nth, .int .i64 (wrap64 (nth * m.2.1)), .int .i64 (mn m.2.1 (wrap64 (f.2.1 - wrap64 (nth * m.2.1))))]) ?bf ?_); (case bf => kernel_rfl)) | ((with_reducible refine wpList_store_row rfl 53 (.tmp 4) (.tmp 51) rfl (w.heap.size + 1) (#[.int .i64 k, .int .i64 nth, .int .i64 (wrap64 (nth * m.2.1)), .int .i64 (mn m.2.1 (wrap64 (f.2.1 - wrap64 (nth * m.2.1))))]) ?sx ?sy 53 _ HR.out ?si rfl ?s1 ?_); (case sx => rfl); (case sy => rfl); (case si => kernel_rfl); (case s1 => exact four_one _ _ _ _)))
            all_goals (
              refine bodyPost_ret (results_ct rfl _ _ (w.heap.size + 1) 53 _ (0, 0) _ rfl hr6 Try.underlying53 rfl (by kernel_rfl)) rfl ?_
              exact ⟨by rw [E2.out]; rfl, hb6⟩)
          · have bn : decide (nth < cP f.2.1 m.2.1) = false := decide_eq_false hn
            have hc := HC2.out
            rw [if_neg hn] at hc
            have HC3 := Lib.hid hc
            clear hc
            go_wp2
            go_roundw
            case rel => exact ⟨k + 1, wrap64 (nth - cP f.2.1 m.2.1), by omega, by go_num, rfl, Lib.hid (by rw [← HC3.out]; push_cast; rfl), HX2, HR2, HB2⟩
            case measure => simp [intOf]; omega
        · have ek : k = m.2.2.1.length := by omega
          subst ek
          have hc := HC.out
          rw [List.drop_length] at hc
          rw [cwhere_nil] at hc
          have e2 := E1.out
          rw [← hc] at e2
          have E2 := Lib.hid e2
          clear hc e2
          have hr6 := setRow_heap wr (w.heap.size + 1) _ (#[.int .i64 0, .int .i64 0, .int .i64 0, .int .i64 0]) 53 (0, 0) HR.out
          have hb6 := below_setRowL HB.out (show w.heap.size ≤ w.heap.size + 1 by omega) (#[.int .i64 0, .int .i64 0, .int .i64 0, .int .i64 0])
          go_wp2_with (first | ((with_reducible refine Fl.wpList_build_to rfl 53 _ rfl (#[.int .i64 0, .int .i64 0, .int .i64 0, .int .i64 0]) ?bf ?_); (case bf => kernel_rfl)) | ((with_reducible refine wpList_store_row rfl 53 (.tmp 4) (.tmp 56) rfl (w.heap.size + 1) (#[.int .i64 0, .int .i64 0, .int .i64 0, .int .i64 0]) ?sx ?sy 53 _ HR.out ?si rfl ?s1 ?_); (case sx => rfl); (case sy => rfl); (case si => kernel_rfl); (case s1 => exact four_one _ _ _ _)))
          refine bodyPost_ret (results_ct rfl _ _ (w.heap.size + 1) 53 _ (0, 0) _ rfl hr6 Try.underlying53 rfl (by kernel_rfl)) rfl ?_
          exact ⟨by rw [E2.out]; rfl, hb6⟩
  · have e1 : WhereR m piece = (0, 0, 0, 0, cfault m) := by unfold WhereR; rw [if_neg hf]
    have E1 := Lib.hid e1
    clear e1
    have b1 : (cfault m == 0) = false := by simp [hf]
    have b2 : (cfault m != 0) = true := by simp [hf]
    have hr6 := setRow_heap wr (w.heap.size + 1) _ (#[.int .i64 0, .int .i64 0, .int .i64 0, .int .i64 0]) 53 (0, 0) HR.out
    have hb6 := below_setRowL HB.out (show w.heap.size ≤ w.heap.size + 1 by omega) (#[.int .i64 0, .int .i64 0, .int .i64 0, .int .i64 0])
    go_wp2_with (first | ((with_reducible refine Fl.wpList_build_to rfl 53 _ rfl (#[.int .i64 0, .int .i64 0, .int .i64 0, .int .i64 0]) ?bf ?_); (case bf => kernel_rfl)) | ((with_reducible refine wpList_store_row rfl 53 (.tmp 4) (.tmp 16) rfl (w.heap.size + 1) (#[.int .i64 0, .int .i64 0, .int .i64 0, .int .i64 0]) ?sx ?sy 53 _ HR.out ?si rfl ?s1 ?_); (case sx => rfl); (case sy => rfl); (case si => kernel_rfl); (case s1 => exact four_one _ _ _ _)))
    refine bodyPost_ret (results_ct rfl _ _ (w.heap.size + 1) 53 _ (0, 0) _ rfl hr6 Try.underlying53 rfl (by kernel_rfl)) rfl ?_
    exact ⟨by rw [E1.out]; rfl, hb6⟩
end Cr
end Go.Proofs.Ytjeeakhgjcbhaaa
set_option linter.unusedVariables false
set_option linter.unusedSimpArgs false
namespace Go.Proofs.Ytjeeakhgjcbhaaa
open Go.RowKit Go.Proofs.YtjeeakhgjcbhaaaW.PrintWords Go.Proofs.YtjeeakhgjcbhaaaW Go.Proofs.YtjeeakhgjcbhaaaW.PrintMore
namespace Cr
open Wd Vl Mt
/-- Where, as the reference tells it. -/
def refWhere (m : MetaD) (piece : Int) : Int × Int × Int × Int × Int := if cfault m = 0 then (if 0 ≤ piece ∧ piece < (pls m.2.1 m.2.2.1 0).length then (let p := (pls m.2.1 m.2.2.1 0).getD piece.toNat (0, 0, 0, 0); (p.1, p.2.1, p.2.2.1, p.2.2.2, 0)) else (0, 0, 0, 0, 91)) else (0, 0, 0, 0, cfault m)
set_option maxHeartbeats 4000000 in
set_option maxRecDepth 100000 in
theorem refWhere_any (m : MetaD) (cs : List Value) (piece : Int) (w : World) (hK : KMeta.K w m cs) (hG : GMeta m) :
    Calls Try.prog 24 #[.agg cs.toArray, .int .i64 piece] w fun e w' => e = .returned (.tuple #[.agg #[.int .i64 (refWhere m piece).1, .int .i64 (refWhere m piece).2.1, .int .i64 (refWhere m piece).2.2.1, .int .i64 (refWhere m piece).2.2.2.1], .int .i64 (refWhere m piece).2.2.2.2]) ∧ Below w.heap.size w w' := by
  obtain ⟨AF, cF, AL, cL, AI, cI, AT, cT, rfl, hF, _⟩ := meta_open hK
  have q1 : m.2.2.1.length * 88 ≤ 140737488351232 := hG.2.1.1
  have HF := Aside0.mk hF
  have HK := Aside0.mk hK
  have HB0 : Aside0 (Below w.heap.size w ((w.alloc (.cells #[.string m.1, .int .i64 m.2.1, .slice AF m.2.2.1.length cF, .slice AL m.2.2.2.1.length cL, .slice AI m.2.2.2.2.1.length cI, .slice AT m.2.2.2.2.2.length cT] 46)).alloc (.cells #[.int .i64 0, .int .i64 0, .int .i64 0, .int .i64 0] 53))) := ⟨below_alloc (below_alloc (Below.refl w.heap.size w) (.cells #[.string m.1, .int .i64 m.2.1, .slice AF m.2.2.1.length cF, .slice AL m.2.2.2.1.length cL, .slice AI m.2.2.2.2.1.length cI, .slice AT m.2.2.2.2.2.length cT] 46)) (.cells #[.int .i64 0, .int .i64 0, .int .i64 0, .int .i64 0] 53)⟩
  have HX0 : Aside0 (((w.alloc (.cells #[.string m.1, .int .i64 m.2.1, .slice AF m.2.2.1.length cF, .slice AL m.2.2.2.1.length cL, .slice AI m.2.2.2.2.1.length cI, .slice AT m.2.2.2.2.2.length cT] 46)).alloc (.cells #[.int .i64 0, .int .i64 0, .int .i64 0, .int .i64 0] 53)).heap[w.heap.size]? = some (.cells #[.string m.1, .int .i64 m.2.1, .slice AF m.2.2.1.length cF, .slice AL m.2.2.2.1.length cL, .slice AI m.2.2.2.2.1.length cI, .slice AT m.2.2.2.2.2.length cT] 46)) := ⟨blk_alloc (heap_alloc_new w _) _⟩
  have HR0 : Aside0 (((w.alloc (.cells #[.string m.1, .int .i64 m.2.1, .slice AF m.2.2.1.length cF, .slice AL m.2.2.2.1.length cL, .slice AI m.2.2.2.2.1.length cI, .slice AT m.2.2.2.2.2.length cT] 46)).alloc (.cells #[.int .i64 0, .int .i64 0, .int .i64 0, .int .i64 0] 53)).heap[w.heap.size + 1]? = some (.cells #[.int .i64 0, .int .i64 0, .int .i64 0, .int .i64 0] 53)) := ⟨by have := heap_alloc_new (w.alloc (.cells #[.string m.1, .int .i64 m.2.1, .slice AF m.2.2.1.length cF, .slice AL m.2.2.2.1.length cL, .slice AI m.2.2.2.2.1.length cI, .slice AT m.2.2.2.2.2.length cT] 46)) (.cells #[.int .i64 0, .int .i64 0, .int .i64 0, .int .i64 0] 53); rwa [World.size_alloc] at this⟩
  have HZ : Hid (∀ j u, ([.string m.1, .int .i64 m.2.1, .slice AF m.2.2.1.length cF, .slice AL m.2.2.2.1.length cL, .slice AI m.2.2.2.2.1.length cI, .slice AT m.2.2.2.2.2.length cT] : List Value)[j]? = some u → ((w.alloc (.cells #[.string m.1, .int .i64 m.2.1, .slice AF m.2.2.1.length cF, .slice AL m.2.2.2.1.length cL, .slice AI m.2.2.2.2.1.length cI, .slice AT m.2.2.2.2.2.length cT] 46)).alloc (.cells #[.int .i64 0, .int .i64 0, .int .i64 0, .int .i64 0] 53)).cell? ((⟨w.heap.size, 0, none⟩ : Addr).add j) = some u) := Lib.hid fun j u hj => by rw [Go.WideShapes.add_plain, Go.Joins.cell_of_block HX0.out, List.getElem?_toArray, Nat.zero_add]; exact hj
  have HG := Lib.hid hG
  have HFA := Lib.hid (refFault_any m _ _ (KMeta.K_below HB0.out hK) hG)
  clear hF hK hG
  go_enter Try.func24, Try.ntmps24
  go_wp2_with ((with_reducible refine Fl.wpList_load rfl 46 (.tmp 2) rfl (⟨w.heap.size, 0, none⟩) ?lx ([.string m.1, .int .i64 m.2.1, .slice AF m.2.2.1.length cF, .slice AL m.2.2.2.1.length cL, .slice AI m.2.2.2.2.1.length cI, .slice AT m.2.2.2.2.2.length cT]) _ ?lc Try.underlying46 rfl ?li ?_); (case lx => rfl); (case lc => exact HZ.out); (case li => exact (by kernel_rfl)))
  go_at_call 56
  refine HFA.out.mono ?_
  rintro e wr ⟨rfl, hb1⟩
  have HX := Aside0.mk (blk_below HX0.out hb1)
  have HR := Aside0.mk (blk_below HR0.out hb1)
  have HB := Aside0.mk (below_step HB0.out hb1)
  have HZ2 : Hid (∀ j u, ([.string m.1, .int .i64 m.2.1, .slice AF m.2.2.1.length cF, .slice AL m.2.2.2.1.length cL, .slice AI m.2.2.2.2.1.length cI, .slice AT m.2.2.2.2.2.length cT] : List Value)[j]? = some u → wr.cell? ((⟨w.heap.size, 0, none⟩ : Addr).add j) = some u) := Lib.hid fun j u hj => by rw [Go.WideShapes.add_plain, Go.Joins.cell_of_block HX.out, List.getElem?_toArray, Nat.zero_add]; exact hj
  clear hb1 HX0 HR0 HB0 HZ HFA
  by_cases hf : cfault m = 0
  · have HPL := Lib.hid (refPlaces_any m _ wr (KMeta.K_below HB.out HK.out) HG.out hf)
    have E0 : Hid (refWhere m piece = if 0 ≤ piece ∧ piece < (pls m.2.1 m.2.2.1 0).length then (let p := (pls m.2.1 m.2.2.1 0).getD piece.toNat (0, 0, 0, 0); (p.1, p.2.1, p.2.2.1, p.2.2.2, 0)) else (0, 0, 0, 0, 91)) := Lib.hid (by unfold refWhere; rw [if_pos hf])
    rw [hf]
    go_wp2_with ((with_reducible refine Fl.wpList_load rfl 46 (.tmp 2) rfl (⟨w.heap.size, 0, none⟩) ?lx ([.string m.1, .int .i64 m.2.1, .slice AF m.2.2.1.length cF, .slice AL m.2.2.2.1.length cL, .slice AI m.2.2.2.2.1.length cI, .slice AT m.2.2.2.2.2.length cT]) _ ?lc Try.underlying46 rfl ?li ?_); (case lx => rfl); (case lc => exact HZ2.out); (case li => exact (by kernel_rfl)))
    go_at_call 57
    refine HPL.out.mono ?_
    rintro e w2 ⟨A, c, rfl, hC, hb2⟩
    have HC := Aside0.mk hC
    replace HR := Aside0.mk (blk_below HR.out hb2)
    replace HB := Aside0.mk (below_step HB.out hb2)
    clear hC hb2 HPL HX HZ2 hf
    generalize pls m.2.1 m.2.2.1 0 = L at *
    by_cases h0 : piece < 0
    · have b0 : decide (piece < 0) = true := decide_eq_true h0
      have E1 := Lib.hid (E0.out.trans (if_neg (by omega)))
      have hr6 := setRow_heap w2 (w.heap.size + 1) _ (#[.int .i64 0, .int .i64 0, .int .i64 0, .int .i64 0]) 53 (0, 0) HR.out
      have hb6 := below_setRowL HB.out (show w.heap.size ≤ w.heap.size + 1 by omega) (#[.int .i64 0, .int .i64 0, .int .i64 0, .int .i64 0])
      go_wp2_with (first | ((with_reducible refine Fl.wpList_build_to rfl 53 _ rfl (#[.int .i64 0, .int .i64 0, .int .i64 0, .int .i64 0]) ?bf ?_); (case bf => kernel_rfl)) | ((with_reducible refine wpList_store_row rfl 53 (.tmp 4) (.tmp 24) rfl (w.heap.size + 1) (#[.int .i64 0, .int .i64 0, .int .i64 0, .int .i64 0]) ?sx ?sy 53 _ HR.out ?si rfl ?s1 ?_); (case sx => rfl); (case sy => rfl); (case si => kernel_rfl); (case s1 => exact four_one _ _ _ _)))
      refine bodyPost_ret (results_ct rfl _ _ (w.heap.size + 1) 53 _ (0, 0) _ rfl hr6 Try.underlying53 rfl (by kernel_rfl)) rfl ?_
      exact ⟨by rw [E1.out]; rfl, hb6⟩
    · have b0 : decide (piece < 0) = false := decide_eq_false h0
      by_cases h1 : piece ≥ L.length
      · have b1 : decide (piece ≥ (L.length : Int)) = true := decide_eq_true h1
        have E1 := Lib.hid (E0.out.trans (if_neg (by omega)))
        have hr6 := setRow_heap w2 (w.heap.size + 1) _ (#[.int .i64 0, .int .i64 0, .int .i64 0, .int .i64 0]) 53 (0, 0) HR.out
        have hb6 := below_setRowL HB.out (show w.heap.size ≤ w.heap.size + 1 by omega) (#[.int .i64 0, .int .i64 0, .int .i64 0, .int .i64 0])
        go_wp2_with (first | ((with_reducible refine Fl.wpList_build_to rfl 53 _ rfl (#[.int .i64 0, .int .i64 0, .int .i64 0, .int .i64 0]) ?bf ?_); (case bf => kernel_rfl)) | ((with_reducible refine wpList_store_row rfl 53 (.tmp 4) (.tmp 24) rfl (w.heap.size + 1) (#[.int .i64 0, .int .i64 0, .int .i64 0, .int .i64 0]) ?sx ?sy 53 _ HR.out ?si rfl ?s1 ?_); (case sx => rfl); (case sy => rfl); (case si => kernel_rfl); (case s1 => exact four_one _ _ _ _)))
        refine bodyPost_ret (results_ct rfl _ _ (w.heap.size + 1) 53 _ (0, 0) _ rfl hr6 Try.underlying53 rfl (by kernel_rfl)) rfl ?_
        exact ⟨by rw [E1.out]; rfl, hb6⟩
      · have b1 : decide (piece ≥ (L.length : Int)) = false := decide_eq_false h1
        obtain ⟨k, rfl⟩ : ∃ k : Nat, piece = k := ⟨piece.toNat, by omega⟩
        have hlt : k < L.length := by omega
        have hlt' : (k : Int) < L.length := by omega
        have e1 := E0.out.trans (if_pos (by omega))
        rw [Int.toNat_natCast] at e1
        obtain ⟨ad, e0, hc⟩ := Fl.at_flat (0, 0, 0, 0) HC.out k hlt
        subst e0
        have HY : Hid (∀ j u, (encPl (L.getD k (0, 0, 0, 0)))[j]? = some u → w2.cell? ((ad.add (k * 4)).add j) = some u) := Lib.hid fun j u hj => by rw [Go.Deep.add_add]; exact hc j u hj
        have E1 := Lib.hid e1
        clear e1 hc E0
        generalize L.getD k (0, 0, 0, 0) = p at *
        have hr6 := setRow_heap w2 (w.heap.size + 1) _ (encPl p).toArray 53 (0, 0) HR.out
        have hb6 := below_setRowL HB.out (show w.heap.size ≤ w.heap.size + 1 by omega) (encPl p).toArray
        go_wp2_with (first | ((with_reducible refine Fl.wpList_load rfl 53 (.tmp 27) rfl (ad.add (k * 4)) ?lx (encPl p) _ ?lc Try.underlying53 rfl ?li ?_); (case lx => rfl); (case lc => exact HY.out); (case li => exact (by kernel_rfl))) | ((with_reducible refine wpList_store_row rfl 53 (.tmp 4) (.tmp 28) rfl (w.heap.size + 1) (encPl p).toArray ?sx ?sy 53 _ HR.out ?si rfl ?s1 ?_); (case sx => rfl); (case sy => rfl); (case si => kernel_rfl); (case s1 => exact four_one _ _ _ _)))
        all_goals (
          refine bodyPost_ret (results_ct rfl _ _ (w.heap.size + 1) 53 _ (0, 0) _ rfl hr6 Try.underlying53 rfl (by kernel_rfl)) rfl ?_
          exact ⟨by rw [E1.out]; rfl, hb6⟩)
  · have e1 : refWhere m piece = (0, 0, 0, 0, cfault m) := by unfold refWhere; rw [if_neg hf]
    have E1 := Lib.hid e1
    clear e1
    have b1 : (cfault m == 0) = false := by simp [hf]
    have b2 : (cfault m != 0) = true := by simp [hf]
    have hr6 := setRow_heap wr (w.heap.size + 1) _ (#[.int .i64 0, .int .i64 0, .int .i64 0, .int .i64 0]) 53 (0, 0) HR.out
    have hb6 := below_setRowL HB.out (show w.heap.size ≤ w.heap.size + 1 by omega) (#[.int .i64 0, .int .i64 0, .int .i64 0, .int .i64 0])
    go_wp2_with (first | ((with_reducible refine Fl.wpList_build_to rfl 53 _ rfl (#[.int .i64 0, .int .i64 0, .int .i64 0, .int .i64 0]) ?bf ?_); (case bf => kernel_rfl)) | ((with_reducible refine wpList_store_row rfl 53 (.tmp 4) (.tmp 12) rfl (w.heap.size + 1) (#[.int .i64 0, .int .i64 0, .int .i64 0, .int .i64 0]) ?sx ?sy 53 _ HR.out ?si rfl ?s1 ?_); (case sx => rfl); (case sy => rfl); (case si => kernel_rfl); (case s1 => exact four_one _ _ _ _)))
    refine bodyPost_ret (results_ct rfl _ _ (w.heap.size + 1) 53 _ (0, 0) _ rfl hr6 Try.underlying53 rfl (by kernel_rfl)) rfl ?_
    exact ⟨by rw [E1.out]; rfl, hb6⟩
end Cr
end Go.Proofs.Ytjeeakhgjcbhaaa
set_option linter.unusedVariables false
set_option linter.unusedSimpArgs false
namespace Go.Proofs.Ytjeeakhgjcbhaaa
open Go.RowKit Go.Proofs.YtjeeakhgjcbhaaaW.PrintWords Go.Proofs.YtjeeakhgjcbhaaaW Go.Proofs.YtjeeakhgjcbhaaaW.PrintMore
namespace Cr
open Wd Vl Mt
theorem cnt_append (g : PlD → Bool) (a b : List PlD) : cnt g (a ++ b) = cnt g a + cnt g b := by unfold cnt; rw [List.filter_append, List.length_append]
theorem cnt_all {g : PlD → Bool} {l : List PlD} (h : ∀ p ∈ l, g p = true) : cnt g l = l.length := by unfold cnt; rw [List.filter_eq_self.2 h]
theorem cnt_none {g : PlD → Bool} {l : List PlD} (h : ∀ p ∈ l, g p = false) : cnt g l = 0 := by
  unfold cnt
  rw [List.filter_eq_nil_iff.2 (fun p hp => by rw [h p hp]; exact Bool.false_ne_true)]
  rfl
theorem fpl_fst {i pl len : Int} : ∀ p ∈ fpl i pl len, p.1 = i := fun p hp => by
  obtain ⟨n, _, rfl⟩ := List.mem_map.1 hp
  rfl
theorem pls_fst (pl : Int) : ∀ (l : List FileD) (i : Int), ∀ p ∈ pls pl l i, i ≤ p.1 ∧ p.1 < i + l.length
  | [], _, p, hp => by cases hp
  | f :: l, i, p, hp => by
    rcases List.mem_append.1 hp with hp | hp
    · rw [fpl_fst p hp, List.length_cons]; omega
    · have := pls_fst pl l (i + 1) p hp; rw [List.length_cons]; omega
theorem pls_split (pl : Int) : ∀ (l : List FileD) (i : Int) (k : Nat), k < l.length → pls pl l i = pls pl (l.take k) i ++ (fpl (i + k) pl (l.getD k f0).2.1 ++ pls pl (l.drop (k + 1)) (i + k + 1))
  | [], _, _, h => by simp at h
  | f :: l, i, 0, h => by simp [pls]
  | f :: l, i, k + 1, h => by
    have := pls_split pl l (i + 1) k (by simpa using h)
    simp only [List.take_succ_cons, List.drop_succ_cons, pls, List.getD_cons_succ]
    rw [this, List.append_assoc]
    have e1 : i + 1 + (k : Int) = i + ((k + 1 : Nat) : Int) := by omega
    rw [e1]
theorem LensOk.get {fs : List FileD} (h : LensOk fs) {k : Nat} (hk : k < fs.length) : 0 ≤ (fs.getD k f0).2.1 ∧ (fs.getD k f0).2.1 ≤ 1099511627776 := by
  rw [List.getD_eq_getElem?_getD, List.getElem?_eq_getElem hk]
  exact h _ (List.getElem_mem hk)
theorem LensOk.take {fs : List FileD} (h : LensOk fs) (k : Nat) : LensOk (fs.take k) := fun f hf => h f (List.mem_of_mem_take hf)
theorem cRow_ref (m : MetaD) (file : Int) : cRow m file = refRow m file := by
  unfold cRow refRow
  by_cases hf : cfault m = 0
  · rw [if_pos hf, if_pos hf]
    obtain ⟨hpl, _, hn, hL, _, _⟩ := cfault_ok hf
    by_cases h1 : 0 ≤ file ∧ file < m.2.2.1.length
    · rw [if_pos h1, if_pos h1]
      obtain ⟨k, rfl⟩ : ∃ k : Nat, file = k := ⟨file.toNat, by omega⟩
      have hk : k < m.2.2.1.length := by omega
      rw [Int.toNat_natCast, pls_split m.2.1 m.2.2.1 0 k hk]
      have g := hL.get hk
      have a1 := csum_pls hpl.1 (m.2.2.1.take k) 0 0 (hL.take k) (by rw [List.length_take]; omega)
      rw [Nat.zero_add] at a1
      have a1' : csum m.2.1 (m.2.2.1.take k) 0 = _ := a1.1
      have a2 := (cP_cN g.1 g.2 hpl.1).1
      have q1 : ∀ p ∈ pls m.2.1 (m.2.2.1.take k) 0, p.1 < k := fun p hp => by
        have := (pls_fst _ _ _ p hp).2
        rw [List.length_take] at this
        omega
      have q2 : ∀ p ∈ fpl (0 + k) m.2.1 (m.2.2.1.getD k f0).2.1, p.1 = k := fun p hp => by rw [fpl_fst p hp]; omega
      have q3 : ∀ p ∈ pls m.2.1 (m.2.2.1.drop (k + 1)) (0 + k + 1), (k : Int) < p.1 := fun p hp => by have := (pls_fst _ _ _ p hp).1; omega
      rw [a1', a2, cnt_append, cnt_append, cnt_append, cnt_append,
        cnt_all (g := fun q => decide (q.1 < (k : Int))) (fun p hp => decide_eq_true (q1 p hp)),
        cnt_none (g := fun q => decide (q.1 < (k : Int))) (fun p hp => decide_eq_false (by have := q2 p hp; omega)),
        cnt_none (g := fun q => decide (q.1 < (k : Int))) (fun p hp => decide_eq_false (by have := q3 p hp; omega)),
        cnt_none (g := fun q => q.1 == (k : Int)) (fun p hp => beq_eq_false_iff_ne.2 (by have := q1 p hp; omega)),
        cnt_all (g := fun q => q.1 == (k : Int)) (fun p hp => beq_iff_eq.2 (q2 p hp)),
        cnt_none (g := fun q => q.1 == (k : Int)) (fun p hp => beq_eq_false_iff_ne.2 (by have := q3 p hp; omega)), fpl_len]
      simp
    · rw [if_neg h1, if_neg h1]
  · rw [if_neg hf, if_neg hf]
theorem mkP_eq {pl len : Int} {n : Nat} (i : Int) (hp : 64 ≤ pl ∧ pl ≤ 16777216) (hl : 0 ≤ len ∧ len ≤ 1099511627776) (hn : n < cN len pl) :
    (i, (n : Int), wrap64 ((n : Int) * pl), mn pl (wrap64 (len - wrap64 ((n : Int) * pl)))) = mkP i n pl len ∧ 0 ≤ (n : Int) * pl ∧ (n : Int) * pl < len := by
  have h1 := (lt_cN (len := len) (pl := pl) (by omega) n).1 hn
  have h2 : 0 ≤ (n : Int) * pl := Int.mul_nonneg (by omega) (by omega)
  refine ⟨?_, h2, h1⟩
  unfold mkP mn
  generalize (n : Int) * pl = x at *
  have e1 : wrap64 x = x := by unfold wrap64; omega
  have e2 : wrap64 (len - x) = len - x := by unfold wrap64; omega
  rw [e1, e2]
  by_cases hx : len - x > pl
  · rw [if_pos hx, if_neg (by omega)]
  · rw [if_neg hx]
    by_cases hy : len - x < pl
    · rw [if_pos hy]
    · rw [if_neg hy, show len - x = pl by omega]
theorem fpl_get {i pl len : Int} {n : Nat} (h : n < cN len pl) : (fpl i pl len)[n]? = some (mkP i n pl len) := by
  unfold fpl
  rw [List.getElem?_map, List.getElem?_range h]
  rfl
theorem cwhere_pls {pl : Int} (hp : 64 ≤ pl ∧ pl ≤ 16777216) : ∀ (l : List FileD) (i : Int) (n : Nat), LensOk l → (n : Int) ≤ 9223372036854775807 → cwhere pl l i n = (pls pl l i)[n]?
  | [], i, n, _, _ => by rw [cwhere_nil]; simp [pls]
  | f :: l, i, n, hl, hn => by
    have hf := hl f List.mem_cons_self
    obtain ⟨h1, h2⟩ := cP_cN hf.1 hf.2 hp.1
    rw [cwhere_cons, h1, show pls pl (f :: l) i = fpl i pl f.2.1 ++ pls pl l (i + 1) from rfl]
    by_cases hlt : n < cN f.2.1 pl
    · rw [if_pos (by omega), List.getElem?_append_left (by rw [fpl_len]; exact hlt), fpl_get hlt, (mkP_eq i hp hf hlt).1]
    · have e : wrap64 ((n : Int) - (cN f.2.1 pl : Nat)) = ((n - cN f.2.1 pl : Nat) : Int) := by unfold wrap64; omega
      rw [if_neg (by omega), List.getElem?_append_right (by rw [fpl_len]; omega), fpl_len, e]
      exact cwhere_pls hp l (i + 1) (n - cN f.2.1 pl) (fun g hg => hl g (List.mem_cons_of_mem _ hg)) (by omega)
theorem where_ref (m : MetaD) (piece : Int) (hx : piece ≤ 9223372036854775807) : WhereR m piece = refWhere m piece := by
  unfold WhereR refWhere
  by_cases hf : cfault m = 0
  · rw [if_pos hf, if_pos hf]
    obtain ⟨hpl, _, hn, hL, _, _⟩ := cfault_ok hf
    by_cases h0 : piece < 0
    · rw [if_pos h0, if_neg (by omega)]
    · rw [if_neg h0]
      obtain ⟨k, rfl⟩ : ∃ k : Nat, piece = k := ⟨piece.toNat, by omega⟩
      rw [cwhere_pls hpl _ _ _ hL hx, Int.toNat_natCast]
      by_cases h1 : k < (pls m.2.1 m.2.2.1 0).length
      · rw [if_pos (by omega), List.getElem?_eq_getElem h1, List.getD_eq_getElem?_getD, List.getElem?_eq_getElem h1]
        rfl
      · rw [if_neg (by omega), List.getElem?_eq_none (by omega)]
  · rw [if_neg hf, if_neg hf]
theorem findAt_skip (file off : Int) : ∀ (a b : List PlD) (i : Int), (∀ p ∈ a, ¬ (p.1 = file ∧ p.2.2.1 ≤ off ∧ off < wrap64 (p.2.2.1 + p.2.2.2))) → findAt file off (a ++ b) i = findAt file off b (i + a.length)
  | [], b, i, _ => by simp
  | p :: a, b, i, h => by
    rw [List.cons_append, findAt_cons, if_neg (h p List.mem_cons_self), findAt_skip file off a b (i + 1) (fun q hq => h q (List.mem_cons_of_mem _ hq)), List.length_cons]
    congr 1
    omega
theorem fpl_split {i pl len : Int} {n : Nat} (h : n < cN len pl) : ∃ a b, fpl i pl len = a ++ (mkP i n pl len :: b) ∧ a.length = n ∧ ∀ p ∈ a, ∃ j, j < n ∧ p = mkP i j pl len := by
  refine ⟨(fpl i pl len).take n, (fpl i pl len).drop (n + 1), ?_, by rw [List.length_take, fpl_len]; omega, fun p hp => ?_⟩
  · have h' : n < (fpl i pl len).length := by rw [fpl_len]; exact h
    have e := fpl_get (i := i) h
    rw [List.getElem?_eq_getElem h'] at e
    injection e with e
    rw [← e, ← List.drop_eq_getElem_cons h', List.take_append_drop]
  · obtain ⟨j, hj, rfl⟩ := List.getElem_of_mem hp
    rw [List.length_take, fpl_len] at hj
    refine ⟨j, by omega, ?_⟩
    have e := fpl_get (i := i) (n := j) (len := len) (pl := pl) (by omega)
    rw [List.getElem_take]
    rw [List.getElem?_eq_getElem (by rw [fpl_len]; omega)] at e
    injection e
theorem at_mul {off pl : Int} {n : Nat} (hp : 0 < pl) (h0 : 0 ≤ off) (hn : (n : Int) = off / pl) : (n : Int) * pl ≤ off ∧ off < (n : Int) * pl + pl := by
  have e := Int.mul_ediv_add_emod off pl
  have m0 := Int.emod_nonneg off (show pl ≠ 0 by omega)
  have m1 := Int.emod_lt_of_pos off hp
  rw [hn, Int.mul_comm]
  omega
theorem w64 {x : Int} (h0 : -9223372036854775808 ≤ x) (h1 : x ≤ 9223372036854775807) : wrap64 x = x := by unfold wrap64; omega
/-- A place's own bytes. -/
theorem hit_len {x pl len : Int} (h0 : 0 ≤ x) (h1 : x < len) (hl : len ≤ 1099511627776) (hp : 64 ≤ pl ∧ pl ≤ 16777216) : wrap64 (x + (if len - x > pl then pl else len - x)) = (if len - x > pl then x + pl else len) := by
  split
  · exact w64 (by omega) (by omega)
  · rw [w64 (by omega) (by omega)]; omega
theorem cAt_ref (m : MetaD) (file off : Int) : cAt m file off = refAt m file off := by
  unfold cAt refAt
  have hR := cRow_ref m file
  rw [hR]
  by_cases hf : cfault m = 0
  · rw [if_pos hf]
    obtain ⟨hpl, _, hn, hL, _, hlen⟩ := cfault_ok hf
    by_cases h1 : 0 ≤ file ∧ file < m.2.2.1.length
    · have e2 : (refRow m file).2.2 = 0 := by unfold refRow; rw [if_pos hf, if_pos h1]
      rw [if_pos e2, if_pos h1, ← hR]
      have e3 : (cRow m file).1 = csum m.2.1 (m.2.2.1.take file.toNat) 0 := by unfold cRow; rw [if_pos hf, if_pos h1]
      rw [e3]
      obtain ⟨k, rfl⟩ : ∃ k : Nat, file = k := ⟨file.toNat, by omega⟩
      have hk : k < m.2.2.1.length := by omega
      have hsp := pls_split m.2.1 m.2.2.1 0 k hk
      have hlen2 := hlen
      rw [hsp] at hlen2
      rw [Int.toNat_natCast, hsp]
      have g := hL.get hk
      have a1 := csum_pls hpl.1 (m.2.2.1.take k) 0 0 (hL.take k) (by rw [List.length_take]; omega)
      rw [Nat.zero_add] at a1
      have a1' : csum m.2.1 (m.2.2.1.take k) 0 = _ := a1.1
      rw [a1']
      have q1 : ∀ p ∈ pls m.2.1 (m.2.2.1.take k) 0, p.1 < k := fun p hp => by
        have := (pls_fst _ _ _ p hp).2
        rw [List.length_take] at this
        omega
      have q3 : ∀ p ∈ pls m.2.1 (m.2.2.1.drop (k + 1)) (0 + k + 1), (k : Int) < p.1 := fun p hp => by have := (pls_fst _ _ _ p hp).1; omega
      rw [findAt_skip _ _ _ _ _ (fun p hp h => by have := q1 p hp; omega)]
      generalize (m.2.2.1.getD k f0).2.1 = len at *
      generalize pls m.2.1 (m.2.2.1.take k) 0 = A at *
      generalize pls m.2.1 (m.2.2.1.drop (k + 1)) (0 + k + 1) = B at *
      by_cases h2 : 0 ≤ off ∧ off < len
      · rw [if_pos h2]
        have hd : 0 ≤ off / m.2.1 := Int.ediv_nonneg h2.1 (by omega)
        obtain ⟨n, hn'⟩ : ∃ n : Nat, (n : Int) = off / m.2.1 := ⟨(off / m.2.1).toNat, by omega⟩
        obtain ⟨b1, b2⟩ := at_mul (by omega) h2.1 hn'
        have hlt : n < cN len m.2.1 := (lt_cN (by omega) n).2 (by omega)
        obtain ⟨a, b, e4, e5, e6⟩ := fpl_split (i := 0 + (k : Int)) hlt
        have hlen3 : A.length + (n + 1) ≤ 65536 := by
          rw [List.length_append, List.length_append, fpl_len] at hlen2
          omega
        rw [e4, List.append_assoc, findAt_skip _ _ _ _ _ (fun p hp h => by
          obtain ⟨j, hj, rfl⟩ := e6 p hp
          obtain ⟨_, h3, h4⟩ := h
          unfold mkP at h3 h4
          simp only at h3 h4
          have hjc : j < cN len m.2.1 := by omega
          obtain ⟨_, h5, h6⟩ := mkP_eq (0 + (k : Int)) hpl g hjc
          have h7 : ((j : Int) + 1) * m.2.1 ≤ (n : Int) * m.2.1 := Int.mul_le_mul_of_nonneg_right (by omega) (by omega)
          rw [Int.add_mul, Int.one_mul] at h7
          generalize (j : Int) * m.2.1 = x at *
          generalize (n : Int) * m.2.1 = y at *
          rw [hit_len h5 h6 g.2 hpl] at h4
          split at h4 <;> omega), List.cons_append, findAt_cons]
        have hmk := mkP_eq (0 + (k : Int)) hpl g hlt
        have hT : Int.tdiv off m.2.1 = (n : Int) := by rw [Int.tdiv_eq_ediv_of_nonneg h2.1, hn']
        have hM : Int.tmod off m.2.1 = off - (n : Int) * m.2.1 := by
          rw [Int.tmod_eq_emod_of_nonneg h2.1]
          have e := Int.mul_ediv_add_emod off m.2.1
          rw [← hn', Int.mul_comm] at e
          omega
        rw [hT, hM, e5]
        unfold mkP
        simp only
        obtain ⟨_, h5, h6⟩ := hmk
        generalize (n : Int) * m.2.1 = x at *
        rw [hit_len h5 h6 g.2 hpl, if_pos ⟨by omega, b1, by split <;> omega⟩, w64 (x := (n : Int)) (by omega) (by omega), w64 (x := (A.length : Int) + n) (by omega) (by omega), w64 (x := off - x) (by omega) (by omega)]
        simp
      · rw [if_neg h2, findAt_skip _ _ _ _ _ (fun p hp h => by
          obtain ⟨j, hj, rfl⟩ := List.mem_map.1 hp
          rw [List.mem_range] at hj
          obtain ⟨_, h3, h4⟩ := h
          unfold mkP at h3 h4
          simp only at h3 h4
          obtain ⟨_, h5, h6⟩ := mkP_eq (0 + (k : Int)) hpl g hj
          generalize (j : Int) * m.2.1 = x at *
          rw [hit_len h5 h6 g.2 hpl] at h4
          split at h4 <;> omega)]
        have := findAt_skip (k : Int) off B [] (0 + (A.length : Int) + ((fpl (0 + (k : Int)) m.2.1 len).length : Int)) (fun p hp h => by have := q3 p hp; omega)
        rw [List.append_nil] at this
        rw [this, findAt_nil]
    · have e2 : refRow m file = (0, 0, 90) := by unfold refRow; rw [if_pos hf, if_neg h1]
      rw [e2, if_neg (by simp), if_neg h1]
  · have e2 : refRow m file = (0, 0, cfault m) := by unfold refRow; rw [if_neg hf]
    rw [e2, if_neg hf, if_neg hf]
end Cr
end Go.Proofs.Ytjeeakhgjcbhaaa
set_option linter.unusedVariables false
set_option linter.unusedSimpArgs false
namespace Go.Proofs.Ytjeeakhgjcbhaaa
open Go.RowKit Go.Proofs.YtjeeakhgjcbhaaaW.PrintWords Go.Proofs.YtjeeakhgjcbhaaaW Go.Proofs.YtjeeakhgjcbhaaaW.PrintMore
namespace Cr
open Wd Vl Mt PCreateBlocks P2

theorem refGood_val (b wd : Int) : torrentref1_Good.f 10 b wd = some (scE b wd) := by
  unfold torrentref1_Good.f scE powB pows
  have e : ∀ x y : Int, x = y ↔ y = x := fun x y => eq_comm
  by_cases h1 : wd < 1
  · by_cases h2 : 32 < wd
    · omega
    · simp [torrentref1_Good.l0, wrap64, List.range_succ, h1, h2]
      repeat' split
      all_goals first | rfl | omega
  · by_cases h2 : 32 < wd
    · simp [torrentref1_Good.l0, wrap64, List.range_succ, h1, h2]
      repeat' split
      all_goals first | rfl | omega
    · simp [torrentref1_Good.l0, wrap64, List.range_succ, h1, h2]
      repeat' split
      all_goals first | rfl | omega
theorem good_val (b wd : Int) : digest_Good.f 1 b wd = some (scE b wd) := by
  unfold digest_Good.f scE
  by_cases h1 : b < 64
  · rw [if_pos h1, powB_lo (by simpa using h1)]; simp [digest_Good.j0]
  · rw [if_neg h1]
    by_cases h2 : b > 16384
    · rw [if_pos h2, powB_hi (by simpa using h2)]; simp [digest_Good.j0]
    · rw [if_neg h2, w64 (by omega) (by omega), and_pow 6 9 (by omega) (by omega) b (by simp; omega) (by simp; omega)]
      cases powB 6 9 b with
      | false => simp [digest_Good.j0]
      | true =>
        simp only [digest_Good.j0]
        by_cases h3 : wd < 1
        · rw [if_neg (by simp), if_pos h3, if_neg (by omega)]
        · by_cases h4 : wd > 32
          · rw [if_neg (by simp), if_neg h3, if_pos h4, if_neg (by omega)]
          · rw [if_neg (by simp), if_neg h3, if_neg h4, if_pos ⟨by simp, by omega, by omega⟩]
theorem scE_ok {b wd : Int} (h : scE b wd = 0) : (∃ j : Nat, j < 9 ∧ b = ((2 ^ (6 + j) : Nat) : Int)) ∧ 64 ≤ b ∧ b ≤ 16384 := by
  unfold scE at h
  by_cases g : powB 6 9 b = true ∧ 1 ≤ wd ∧ wd ≤ 32
  · obtain ⟨j, hj, rfl⟩ := (powB_iff 6 9 b).1 g.1
    have h1 : 2 ^ 6 ≤ 2 ^ (6 + j) := Nat.pow_le_pow_right (by omega) (by omega)
    have h2 : 2 ^ (6 + j) ≤ 2 ^ 14 := Nat.pow_le_pow_right (by omega) (by omega)
    exact ⟨⟨j, hj, rfl⟩, by omega, by omega⟩
  · rw [if_neg g] at h; cases h
/-- A piece length of a scale. -/
def atB (lo n : Nat) (b x : Int) : Bool := (List.range n).any fun k => x == ((2 ^ (lo + k) : Nat) : Int) * b
theorem atB_iff (lo n : Nat) (b x : Int) : atB lo n b x = true ↔ ∃ k, k < n ∧ x = ((2 ^ (lo + k) : Nat) : Int) * b := by
  unfold atB
  simp only [List.any_eq_true, List.mem_range, beq_iff_eq]
theorem mul_small {b : Int} (p : Nat) (hp : p ≤ 1024) (hb : 64 ≤ b ∧ b ≤ 16384) : wrap64 ((p : Int) * b) = (p : Int) * b := by
  have h0 : 0 ≤ (p : Int) * b := Int.mul_nonneg (by omega) (by omega)
  have h1 : (p : Int) * b ≤ 1024 * b := Int.mul_le_mul_of_nonneg_right (by omega) (by omega)
  exact w64 (by omega) (by omega)
theorem lenAt_go (b wd x : Int) (hb : 64 ≤ b ∧ b ≤ 16384) : ∀ (n lo : Nat), lo + n = 11 → torrentref9_pieceLenAt.l0 (n + 1) x ((2 ^ lo : Nat) : Int) b wd = some (atB lo n b x)
  | 0, lo, h => by
    obtain rfl : lo = 11 := by omega
    have hz : atB 11 0 b x = false := rfl
    rw [hz]
    unfold torrentref9_pieceLenAt.l0
    rw [if_neg (by decide)]
  | n + 1, lo, h => by
    have hle : 2 ^ lo ≤ 2 ^ 10 := Nat.pow_le_pow_right (by omega) (by omega)
    have hnext : wrap64 (2 * ((2 ^ lo : Nat) : Int)) = ((2 ^ (lo + 1) : Nat) : Int) := by
      rw [Nat.pow_succ]; unfold wrap64; omega
    have hm := mul_small (2 ^ lo) (Nat.le_trans hle (by decide)) hb
    unfold torrentref9_pieceLenAt.l0
    rw [if_pos (by omega), hm]
    by_cases hx : x = ((2 ^ lo : Nat) : Int) * b
    · rw [if_pos hx]
      exact congrArg some ((atB_iff lo (n + 1) b x).2 ⟨0, by omega, hx⟩).symm
    · rw [if_neg hx, hnext, lenAt_go b wd x hb n (lo + 1) (by omega)]
      refine congrArg some ?_
      rw [Bool.eq_iff_iff, atB_iff, atB_iff]
      constructor
      · rintro ⟨k, hk, rfl⟩
        exact ⟨k + 1, by omega, by rw [show lo + (k + 1) = lo + 1 + k by omega]⟩
      · rintro ⟨k, hk, he⟩
        cases k with
        | zero => exact absurd he hx
        | succ k => exact ⟨k, by omega, by rw [he, show lo + (k + 1) = lo + 1 + k by omega]⟩
theorem lenAt_val {b : Int} (wd x : Int) (hb : 64 ≤ b ∧ b ≤ 16384) : torrentref9_pieceLenAt.f 12 b wd x = some (atB 0 11 b x) := lenAt_go b wd x hb 11 0 rfl
/-- What hinders that the pieces are cut into blocks. -/
def cscaled (b wd : Int) (m : MetaD) : Int := if scE b wd = 0 then (if cfault m = 0 then (if m.2.1 < b ∨ m.2.1 > b * 1024 then 83 else 0) else cfault m) else scE b wd
theorem atB_pl {b x : Int} (hb : ∃ j : Nat, j < 9 ∧ b = ((2 ^ (6 + j) : Nat) : Int)) (hx : goodPL x = true) : atB 0 11 b x = true ↔ ¬ (x < b ∨ x > b * 1024) := by
  obtain ⟨j, hj, rfl⟩ := hb
  obtain ⟨i, hi, rfl⟩ := (powB_iff 6 19 x).1 hx
  rw [atB_iff]
  have hp : 2 ^ (6 + j) * 1024 = 2 ^ (6 + j + 10) := by rw [Nat.pow_add _ (6 + j) 10]
  constructor
  · rintro ⟨k, hk, he⟩
    have he' : 2 ^ (6 + i) = 2 ^ (0 + k) * 2 ^ (6 + j) := by exact_mod_cast he
    rw [← Nat.pow_add] at he'
    have h1 : 2 ^ (6 + j) ≤ 2 ^ (0 + k + (6 + j)) := Nat.pow_le_pow_right (by omega) (by omega)
    have h2 : 2 ^ (0 + k + (6 + j)) ≤ 2 ^ (6 + j + 10) := Nat.pow_le_pow_right (by omega) (by omega)
    rw [he']
    omega
  · intro h
    have h1 : 2 ^ (6 + j) ≤ 2 ^ (6 + i) := by omega
    have h2 : 2 ^ (6 + i) ≤ 2 ^ (6 + j + 10) := by omega
    have h3 := (Nat.pow_le_pow_iff_right (by omega : 1 < 2)).1 h1
    have h4 := (Nat.pow_le_pow_iff_right (by omega : 1 < 2)).1 h2
    refine ⟨i - j, by omega, ?_⟩
    rw [← Int.natCast_mul, ← Nat.pow_add, show 0 + (i - j) + (6 + j) = 6 + i by omega]
theorem cfault_goodPL {m : MetaD} (h : cfault m = 0) : goodPL m.2.1 = true := by
  unfold cfault at h
  by_cases hg : goodPL m.2.1 = false
  · rw [if_pos hg] at h; omega
  · simpa using hg
/-- A piece that there is has some bytes, and no more than a piece length. -/
theorem where_len {m : MetaD} {piece : Int} (hx : piece ≤ 9223372036854775807) (h : (WhereR m piece).2.2.2.2 = 0) : 0 < (WhereR m piece).2.2.2.1 ∧ (WhereR m piece).2.2.2.1 ≤ 16777216 := by
  rw [where_ref m piece hx] at h ⊢
  unfold refWhere at h ⊢
  by_cases hf : cfault m = 0
  · rw [if_pos hf] at h ⊢
    by_cases h1 : 0 ≤ piece ∧ piece < (pls m.2.1 m.2.2.1 0).length
    · rw [if_pos h1] at h ⊢
      obtain ⟨hpl, _, _, hL, _, _⟩ := cfault_ok hf
      have key : ∀ (l : List FileD) (i : Int), LensOk l → ∀ p ∈ pls m.2.1 l i, 0 < p.2.2.2 ∧ p.2.2.2 ≤ m.2.1 := by
        intro l
        induction l with
        | nil => intro i _ p hp; cases hp
        | cons f l ih =>
          intro i hl p hp
          rcases List.mem_append.1 hp with hp | hp
          · obtain ⟨n, hn, rfl⟩ := List.mem_map.1 hp
            rw [List.mem_range] at hn
            have := (mkP_eq i hpl (hl f List.mem_cons_self) hn).2
            unfold mkP
            simp only
            split <;> omega
          · exact ih (i + 1) (fun g hg => hl g (List.mem_cons_of_mem _ hg)) p hp
      have := key _ 0 hL ((pls m.2.1 m.2.2.1 0).getD piece.toNat (0, 0, 0, 0)) (nth_mem _ _ _ (by omega))
      simp only
      omega
    · rw [if_neg h1] at h; exact absurd h (by decide)
  · rw [if_neg hf] at h; exact absurd h hf
/-- The first fault of a piece's blocks. -/
def eB (b wd : Int) (m : MetaD) (piece : Int) : Int := if cscaled b wd m = 0 then (WhereR m piece).2.2.2.2 else cscaled b wd m
def nB (b wd : Int) (m : MetaD) (piece : Int) : Int := if eB b wd m piece = 0 then cP (WhereR m piece).2.2.2.1 b else 0
def cBlk (b wd : Int) (m : MetaD) (piece block : Int) : Int × Int × Int :=
  if eB b wd m piece = 0 then (if 0 ≤ block ∧ block < nB b wd m piece then (wrap64 (block * b), mn b (wrap64 ((WhereR m piece).2.2.2.1 - wrap64 (block * b))), 0) else (0, 0, 92)) else (0, 0, eB b wd m piece)
/-- The blocks of a piece, in their order. -/
abbrev RgD := Int × Int
def rgs (b len : Int) : List RgD := (fpl 0 b len).map fun p => (p.2.2.1, p.2.2.2)
theorem rgs_len (b len : Int) : (rgs b len).length = cN len b := by unfold rgs; rw [List.length_map, fpl_len]
def cutL (b wd : Int) (m : MetaD) (piece : Int) : List RgD := if eB b wd m piece = 0 then rgs b (WhereR m piece).2.2.2.1 else []
def refBlk (b wd : Int) (m : MetaD) (piece block : Int) : Int × Int × Int :=
  if eB b wd m piece = 0 then (if 0 ≤ block ∧ block < (cutL b wd m piece).length then (let p := (cutL b wd m piece).getD block.toNat (0, 0); (p.1, p.2, 0)) else (0, 0, 92)) else (0, 0, eB b wd m piece)
theorem eB_ok {b wd : Int} {m : MetaD} {piece : Int} (hx : piece ≤ 9223372036854775807) (h : eB b wd m piece = 0) : (64 ≤ b ∧ b ≤ 16777216) ∧ 0 ≤ (WhereR m piece).2.2.2.1 ∧ (WhereR m piece).2.2.2.1 ≤ 1099511627776 := by
  unfold eB at h
  by_cases hs : cscaled b wd m = 0
  · rw [if_pos hs] at h
    have h1 := where_len hx h
    have h2 : scE b wd = 0 := by
      unfold cscaled at hs
      by_cases h3 : scE b wd = 0
      · exact h3
      · rw [if_neg h3] at hs; exact hs
    have h4 := (scE_ok h2).2
    omega
  · rw [if_neg hs] at h; exact absurd h hs
theorem nB_len {b wd : Int} {m : MetaD} {piece : Int} (hx : piece ≤ 9223372036854775807) : nB b wd m piece = ((cutL b wd m piece).length : Int) := by
  unfold nB cutL
  by_cases h : eB b wd m piece = 0
  · obtain ⟨h1, h2, h3⟩ := eB_ok hx h
    rw [if_pos h, if_pos h, rgs_len, (cP_cN h2 h3 h1.1).1]
  · rw [if_neg h, if_neg h]; rfl
theorem blk_ref {b wd : Int} {m : MetaD} {piece block : Int} (hx : piece ≤ 9223372036854775807) : cBlk b wd m piece block = refBlk b wd m piece block := by
  unfold cBlk refBlk
  rw [nB_len hx]
  by_cases h : eB b wd m piece = 0
  · obtain ⟨h1, h2, h3⟩ := eB_ok hx h
    rw [if_pos h, if_pos h]
    by_cases h4 : 0 ≤ block ∧ block < (cutL b wd m piece).length
    · rw [if_pos h4, if_pos h4]
      obtain ⟨n, rfl⟩ : ∃ n : Nat, block = n := ⟨block.toNat, by omega⟩
      have e : cutL b wd m piece = rgs b (WhereR m piece).2.2.2.1 := by unfold cutL; rw [if_pos h]
      rw [e, rgs_len] at h4
      have hn : n < cN (WhereR m piece).2.2.2.1 b := by omega
      have hm := (mkP_eq 0 h1 ⟨h2, h3⟩ hn).1
      rw [e, Int.toNat_natCast, List.getD_eq_getElem?_getD]
      unfold rgs
      rw [List.getElem?_map, fpl_get hn, ← hm]
      rfl
    · rw [if_neg h4, if_neg h4]
  · rw [if_neg h, if_neg h]
end Cr
end Go.Proofs.Ytjeeakhgjcbhaaa
set_option linter.unusedVariables false
set_option linter.unusedSimpArgs false
namespace Go.Proofs.Ytjeeakhgjcbhaaa
open Go.RowKit Go.Proofs.YtjeeakhgjcbhaaaW.PrintWords
namespace Mt
open Vl
theorem set_seg {cs : List Value} {a sz j : Nat} (u : Value) (hfit : a + sz ≤ cs.length) (hj : j < sz) : cs.set (a + j) u = cs.take a ++ ((cs.drop a).take sz).set j u ++ cs.drop (a + ((((cs.drop a).take sz).set j u).length)) := by
  have hl : (((cs.drop a).take sz).set j u).length = sz := by rw [List.length_set, List.length_take, List.length_drop]; omega
  rw [hl]
  apply List.ext_getElem?
  intro q
  rw [List.getElem?_set]
  by_cases h1 : q < a
  · rw [if_neg (by omega), List.append_assoc, List.getElem?_append_left (by rw [List.length_take]; omega), List.getElem?_take, if_pos h1]
  · rw [List.append_assoc, List.getElem?_append_right (by rw [List.length_take]; omega), List.length_take, Nat.min_eq_left (by omega)]
    by_cases h2 : q < a + sz
    · rw [List.getElem?_append_left (by rw [hl]; omega), List.getElem?_set, List.length_take, List.length_drop, List.getElem?_take, List.getElem?_drop, if_pos (show q - a < sz by omega), show a + (q - a) = q by omega]
      by_cases h3 : a + j = q
      · rw [if_pos h3, if_pos (show j = q - a by omega), if_pos (by omega), if_pos (by omega)]
      · rw [if_neg h3, if_neg (show ¬ j = q - a by omega)]
    · rw [if_neg (by omega), List.getElem?_append_right (by rw [hl]; omega), hl, List.getElem?_drop]
      congr 1; omega
theorem R_field {α : Type} {d : Kd α} {e : Nat} {w : World} {base g n c : Nat} {ok : Nat → Prop} {xs : List α} (h : d.R e w base ok (.slice (some ⟨g, 0, none⟩) n c) xs) (i : Nat) (hi : i < xs.length) (j : Nat) (hj : j < d.sz) (u : Value) (x' : α)
    (hx : ∀ ok cs, d.M w base ok (xs[i]) cs → d.M w base ok x' (cs.set j u)) : d.R e (w.setCell ⟨g, i * d.sz + j, none⟩ u) base ok (.slice (some ⟨g, 0, none⟩) n c) (xs.set i x') := by
  obtain ⟨hok, inner, ⟨hl, ho⟩, hr⟩ := h
  rcases ho with ⟨h0, _⟩ | ⟨g', cap, cur, he, hg, hh, hc, hm, hs, ht⟩
  · cases h0
  · injection he with he1 he2 he3
    injection he1 with he1
    injection he1 with he1
    subst he1 he2 he3
    have hfit : i * d.sz + d.sz ≤ xs.length * d.sz := by rw [← Nat.succ_mul]; exact Nat.mul_le_mul_right _ hi
    have hcl : xs.length * d.sz ≤ cur.size := by rw [hs]; exact Nat.mul_le_mul_right _ hc
    have hseg := set_seg (cs := inner) u (by rw [hl]; exact hfit) hj
    have hM := hx _ _ (hr.2 i _ (List.getElem?_eq_getElem hi))
    have hr2 := Kd.reps_set hr hi hM (by rw [List.length_set, List.length_take, List.length_drop, hl]; omega)
    rw [← hseg] at hr2
    refine ⟨hok, inner.set (i * d.sz + j) u, ⟨by rw [List.length_set, List.length_set]; exact hl, .inr ⟨g, c, cur.setIfInBounds (i * d.sz + j) u, by rw [List.length_set], hg, Go.Joins.block_setCell hh _, by rw [List.length_set]; exact hc, hm, by simpa using hs, ?_⟩⟩, ?_⟩
    · rw [List.length_set, Array.toList_setIfInBounds, ← ht, List.take_set]
    · refine hr2.imp_ fun p q hp => ?_
      exact Kd.M_far hp (fun k hk => fun hkg => hk.2 (by rw [hkg]; rfl)) u
theorem R_opened {α : Type} {d : Kd α} {e : Nat} {w : World} {base : Nat} {ok : Nat → Prop} {v : Value} {xs : List α} (h : d.R e w base ok v xs) (hne : 0 < xs.length) : ∃ g c cur, v = .slice (some ⟨g, 0, none⟩) xs.length c ∧ w.heap[g]? = some (.cells cur e (0, 0)) ∧ ok g ∧ xs.length * d.sz ≤ cur.size ∧ base ≤ g := by
  obtain ⟨hok, inner, ⟨hl, ho⟩, hr⟩ := h
  rcases ho with ⟨_, h0⟩ | ⟨g, cap, cur, he, hg, hh, hc, hm, hs, ht⟩
  · have := hr.1
    simp_all
  · subst he
    exact ⟨g, cap, cur, rfl, hh, hok g (by simp [Value.ownBlock]), by rw [hs]; exact Nat.mul_le_mul_right _ hc, hg⟩
end Mt
end Go.Proofs.Ytjeeakhgjcbhaaa
set_option linter.unusedVariables false
set_option linter.unusedSimpArgs false
namespace Go.Proofs.Ytjeeakhgjcbhaaa
open Go.RowKit Go.Proofs.YtjeeakhgjcbhaaaW.PrintWords Go.Proofs.YtjeeakhgjcbhaaaW
namespace Mt
open Wd Vl
def zM : Array Value := #[.string ⟨#[]⟩, .int .i64 0, .slice none 0 0, .slice none 0 0, .slice none 0 0, .slice none 0 0]
theorem zeroM0 : (Try.prog.info? 46).map (·.zero) = some (some (.agg zM)) := by kernel_rfl
/-- The rows of a metainfo that was made. -/
structure TX (B : Nat) (ok : Nat → Prop) (fs : List FileD) (ls : List LayerD) (VF VL : Value) (W : World) : Prop where
  rf : ∃ W0, (KFT W0).R 93 W B ok VF fs
  rl : KLayer.R 96 W B ok VL ls
section
variable {B : Nat} {ok : Nat → Prop} {fs : List FileD} {ls : List LayerD} {VF VL : Value} {W W1 : World}
theorem TX.below (h : TX B ok fs ls VF VL W) (hb : Below W.heap.size W W1) : TX B ok fs ls VF VL W1 := by
  obtain ⟨⟨W0, h1⟩, h2⟩ := h
  exact ⟨⟨W0, Kd.R_below h1 hb⟩, Kd.R_below h2 hb⟩
theorem TX.far (h : TX B ok fs ls VF VL W) {p : Addr} (hok : ∀ k, ok k → k ≠ p.block) (u : Value) : TX B ok fs ls VF VL (W.setCell p u) := by
  obtain ⟨⟨W0, h1⟩, h2⟩ := h
  exact ⟨⟨W0, Kd.R_far h1 hok u⟩, Kd.R_far h2 hok u⟩
theorem TX.slices (h : TX B ok fs ls VF VL W) : ∃ A c A' c', VF = .slice A fs.length c ∧ VL = .slice A' ls.length c' := by
  obtain ⟨⟨W0, h1⟩, h2⟩ := h
  obtain ⟨A, c, e⟩ := Kd.R_slice h1
  obtain ⟨A', c', e'⟩ := Kd.R_slice h2
  exact ⟨A, c, A', c', e, e'⟩
theorem TX.setRow {g : Nat} {old : Array Value} (h : TX B ok fs ls VF VL W) (hb : W.heap[g]? = some (.cells old 46 (0, 0))) (cs : Array Value) : TX B ok fs ls VF VL (W.setRow g cs) := by
  obtain ⟨⟨W0, h1⟩, h2⟩ := h
  exact ⟨⟨W0, R_setRow h1 hb (by rw [KFT_E]; decide) cs⟩, R_setRow h2 hb (by decide) cs⟩
theorem TX.set {g : Nat} {old : Array Value} (h : TX B ok fs ls VF VL W) (hb : W.heap[g]? = some (.cells old 46 (0, 0))) (j : Nat) (u : Value) : TX B ok fs ls VF VL (W.setCell ⟨g, j, none⟩ u) := by
  obtain ⟨⟨W0, h1⟩, h2⟩ := h
  exact ⟨⟨W0, Kd.R_set h1 hb (by rw [KFT_E]; decide) j u⟩, Kd.R_set h2 hb (by decide) j u⟩
theorem TX.upto (h : TX B ok fs ls VF VL W) : TX B (fun k => k < W.heap.size) fs ls VF VL W := by
  obtain ⟨⟨W0, h1⟩, h2⟩ := h
  exact ⟨⟨W0, Kd.R_mono (Kd.R_bound h1) fun k hk => hk.2.2.1⟩, Kd.R_mono (Kd.R_bound h2) fun k hk => hk.2.2.1⟩
theorem TX.lower {B' : Nat} (h : TX B ok fs ls VF VL W) (hB : B' ≤ B) : TX B' ok fs ls VF VL W := by
  obtain ⟨⟨W0, h1⟩, h2⟩ := h
  exact ⟨⟨W0, Kd.R_lower h1 hB⟩, Kd.R_lower h2 hB⟩
theorem TX.from_ {B' : Nat} (h : TX B ok fs ls VF VL W) (hB : B' ≤ B) : TX B' (fun k => B ≤ k) fs ls VF VL W := by
  obtain ⟨⟨W0, h1⟩, h2⟩ := h
  exact ⟨⟨W0, Kd.R_lower (Kd.R_mono (Kd.R_bound h1) fun k hk => hk.2.1) hB⟩, Kd.R_lower (Kd.R_mono (Kd.R_bound h2) fun k hk => hk.2.1) hB⟩
end
/-- Without its other keys. -/
def bare (f : FileD) : FileD := (f.1, f.2.1, f.2.2.1, [])
/-- The first ones without their other keys. -/
def brs : Nat → List FileD → List FileD
  | 0, l => l
  | _ + 1, [] => []
  | k + 1, f :: l => bare f :: brs k l
theorem brs_len : ∀ (k : Nat) (l : List FileD), (brs k l).length = l.length
  | 0, _ => rfl
  | _ + 1, [] => rfl
  | k + 1, f :: l => by unfold brs; rw [List.length_cons, List.length_cons, brs_len]
theorem brs_succ : ∀ (k : Nat) (l : List FileD) (h : k < (brs k l).length), (brs k l).set k (bare ((brs k l)[k])) = brs (k + 1) l
  | 0, [], h => by simp [brs] at h
  | 0, f :: l, h => by simp [brs]
  | k + 1, [], h => by simp [brs] at h
  | k + 1, f :: l, h => by
    have := brs_succ k l (by simpa [brs] using h)
    simpa [brs] using this
theorem brs_all : ∀ (l : List FileD), brs l.length l = l.map bare
  | [] => rfl
  | f :: l => by rw [List.length_cons, List.map_cons, ← brs_all l]; rfl
theorem bare_M {W0 W : World} {B : Nat} {ok : Nat → Prop} {f : FileD} {cs : List Value} (h : (KFT W0).M W B ok f cs) : (KFT W0).M W B ok (bare f) (cs.set 34 (.slice none 0 0)) := by
  obtain ⟨q0, r0, rfl, ⟨v, rfl, hp⟩, q1, r1, rfl, h1, q2, r2, rfl, h2, A, c, rfl, hc, hm⟩ := h
  have e1 : q1 = [.int .i64 f.2.1] := h1
  have e2 : q2 = encH f.2.2.1 := h2
  subst e1 e2
  have e : ([v] ++ ([Value.int .i64 f.2.1] ++ (encH f.2.2.1 ++ [Value.slice A f.2.2.2.length c]))).set 34 (.slice none 0 0) = [v] ++ ([Value.int .i64 f.2.1] ++ (encH f.2.2.1 ++ [Value.slice none 0 0])) := by
    rw [List.set_append_right _ _ (by simp), List.set_append_right _ _ (by simp), List.set_append_right _ _ (by simp [encH_len])]
    simp [encH_len]
  exact ⟨[v], _, e, ⟨v, rfl, hp⟩, [.int .i64 f.2.1], _, rfl, rfl, encH f.2.2.1, _, rfl, rfl, none, 0, rfl, Nat.le_refl _, Kd.C_nil _ _⟩
theorem KFT_bareK {W0 w : World} {f : FileD} {cs : List Value} (hf : f.2.2.2 = []) (h : (KFT W0).K w f cs) : KFile.K w f cs := by
  obtain ⟨q0, r0, rfl, h0, q1, r1, rfl, h1, q2, r2, rfl, h2, A, c, rfl, hc, h3⟩ := h
  refine ⟨q0, _, rfl, h0, q1, _, rfl, h1, q2, _, rfl, h2, A, c, rfl, hc, h3.1, h3.2.1, fun hn => ?_⟩
  rw [hf] at hn
  exact absurd hn (Nat.lt_irrefl 0)
theorem KFT_bareC {W0 w : World} {A : Option Addr} {n : Nat} {xs : List FileD} (hx : ∀ f ∈ xs, f.2.2.2 = []) (h : (KFT W0).C w A n xs) : KFile.C w A n xs :=
  ⟨h.1, h.2.1, fun hn => by
    obtain ⟨ad, e, hc⟩ := h.2.2 hn
    refine ⟨ad, e, fun j p hj => ?_⟩
    obtain ⟨c, hl, hr, hcell⟩ := hc j p hj
    exact ⟨c, hl, KFT_bareK (hx p (List.mem_of_getElem? hj)) hr, hcell⟩⟩
theorem bare_mem {fs : List FileD} : ∀ f ∈ fs.map bare, f.2.2.2 = [] := fun f hf => by
  obtain ⟨g, _, rfl⟩ := List.mem_map.1 hf
  rfl
section
variable {B : Nat} {ok : Nat → Prop} {fs : List FileD} {ls : List LayerD} {VF VL : Value} {W W1 : World}
theorem TX.opened {A : Option Addr} {n c : Nat} (h : TX B ok fs ls (.slice A n c) VL W) (hne : 0 < fs.length) : ∃ g cur, A = some ⟨g, 0, none⟩ ∧ W.heap[g]? = some (.cells cur 93 (0, 0)) ∧ ok g ∧ fs.length * 35 ≤ cur.size ∧ B ≤ g := by
  obtain ⟨⟨W0, h1⟩, h2⟩ := h
  obtain ⟨g, c', cur, e, hh, hok, hs, hB⟩ := R_opened h1 hne
  injection e with e1 e2 e3
  exact ⟨g, cur, e1, hh, hok, hs, hB⟩
theorem TX.bare {g n c k : Nat} (h : TX B ok (brs k fs) ls (.slice (some ⟨g, 0, none⟩) n c) VL W) (hk : k < fs.length) : TX B ok (brs (k + 1) fs) ls (.slice (some ⟨g, 0, none⟩) n c) VL (W.setCell ⟨g, k * 35 + 34, none⟩ (.slice none 0 0)) := by
  obtain ⟨⟨W0, h1⟩, h2⟩ := h
  have hk' : k < (brs k fs).length := by rw [brs_len]; exact hk
  obtain ⟨g', c', cur, e, hh, _⟩ := R_opened h1 (by omega)
  injection e with e1 _ _
  injection e1 with e1
  injection e1 with e1
  subst e1
  have := R_field h1 k hk' 34 (by rw [KFT_sz]; omega) (.slice none 0 0) (Mt.bare ((brs k fs)[k])) (fun ok cs hM => bare_M hM)
  rw [brs_succ, KFT_sz] at this
  exact ⟨⟨W0, this⟩, Kd.R_set h2 hh (by decide) _ _⟩
/-- What lies in a metainfo whose other keys are struck, read. -/
theorem TX.read {m : MetaD} {A A' : Option Addr} {n c n' c' : Nat} (h : TX B ok (m.2.2.1.map Mt.bare) m.2.2.2.1 (.slice A n c) (.slice A' n' c') W) : KMeta.K W (m.1, m.2.1, m.2.2.1.map Mt.bare, m.2.2.2.1, [], []) [.string m.1, .int .i64 m.2.1, .slice A n c, .slice A' n' c', .slice none 0 0, .slice none 0 0] := by
  obtain ⟨⟨W0, h1⟩, h2⟩ := h
  obtain ⟨rfl, hc, hC⟩ := Kd.R_reads' h1
  obtain ⟨rfl, hc', hC'⟩ := Kd.R_reads' h2
  exact ⟨[.string m.1], _, rfl, rfl, [.int .i64 m.2.1], _, rfl, rfl, [.slice A _ c], _, rfl, ⟨A, c, rfl, hc, KFT_bareC bare_mem hC⟩, [.slice A' _ c'], _, rfl, ⟨A', c', rfl, hc', hC'⟩, [.slice none 0 0], _, rfl, ⟨none, 0, rfl, Nat.le_refl _, Kd.C_nil _ _⟩, none, 0, rfl, Nat.le_refl _, Kd.C_nil _ _⟩
end
theorem GMeta_bare {m : MetaD} (h : GMeta m) : GMeta (m.1, m.2.1, m.2.2.1.map bare, m.2.2.2.1, [], []) := by
  refine ⟨h.1, ⟨by rw [List.length_map]; exact h.2.1.1, fun f hf => ?_⟩, h.2.2⟩
  obtain ⟨g, hg, rfl⟩ := List.mem_map.1 hf
  have := h.2.1.2 g hg
  exact ⟨this.1, this.2.1, by show 0 * 96 ≤ reachBytes; omega⟩
/-- The cells of a metainfo that was made, its other keys whatever they are. -/
def MC (m : MetaD) (VF VL : Value) (cs : List Value) : Prop := ∃ (A : Option Addr) (a a' : Nat) (A2 : Option Addr) (b b' : Nat), cs = [.string m.1, .int .i64 m.2.1, VF, VL, .slice A a a', .slice A2 b b']
theorem TX_of {W0 W : World} {B : Nat} {ok : Nat → Prop} {m : MetaD} {cs : List Value} (h : (KMT W0).M W B ok m cs) : ∃ VF VL, MC m VF VL cs ∧ TX B ok m.2.2.1 m.2.2.2.1 VF VL W := by
  obtain ⟨q0, r0, rfl, h0, q1, r1, rfl, h1, q2, r2, rfl, ⟨v, rfl, hp⟩, q3, r3, rfl, ⟨u, rfl, hu⟩, q4, r4, rfl, ⟨A, c, rfl, hc, h4⟩, A', c', rfl, hc', h5⟩ := h
  have e0 : q0 = [.string m.1] := h0
  have e1 : q1 = [.int .i64 m.2.1] := h1
  subst e0 e1
  exact ⟨v, u, ⟨A, _, c, A', _, c', rfl⟩, ⟨W0, hp⟩, hu⟩
/-- Behind the two copies. -/
def FJ (m : MetaD) (w wb : World) (s : Nat × Nat × List Value × List Value) (W : World) : Prop :=
  ∃ hi VF1 VL1 VF2 VL2, MC m VF1 VL1 s.2.2.1 ∧ MC m VF2 VL2 s.2.2.2 ∧ s.1 ≠ s.2.1 ∧ wb.heap.size ≤ s.1 ∧ wb.heap.size ≤ s.2.1 ∧ W.heap[s.1]? = some (.cells zM 46) ∧ W.heap[s.2.1]? = some (.cells zM 46) ∧
    TX wb.heap.size (fun k => k < hi) m.2.2.1 m.2.2.2.1 VF1 VL1 W ∧ TX wb.heap.size (fun k => hi ≤ k) m.2.2.1 m.2.2.2.1 VF2 VL2 W ∧ Below wb.heap.size wb W
set_option maxHeartbeats 4000000 in
set_option maxRecDepth 100000 in
theorem stays_any (m : MetaD) (cs1 cs2 : List Value) (w : World) (hK1 : KMeta.K w m cs1) (hK2 : KMeta.K w m cs2) (hG : GMeta m) :
    Calls Try.prog 27 #[.agg cs1.toArray, .agg cs2.toArray] w fun e w' => e = .returned (.bool true) ∧ Below w.heap.size w w' := by
  obtain ⟨A1, c1, L1, d1, I1, e1, T1, f1, rfl, _⟩ := meta_open hK1
  obtain ⟨A2, c2, L2, d2, I2, e2, T2, f2, rfl, _⟩ := meta_open hK2
  have q1 : m.2.2.1.length * 88 ≤ 140737488351232 := hG.2.1.1
  have HK1 := Aside0.mk hK1
  have HK2 := Aside0.mk hK2
  clear hK1 hK2
  go_enter Try.func27, Try.ntmps27
  go_upto_region 1 with fail
  obtain ⟨wb, hwr⟩ : ∃ wb, wb = (w.alloc (.cells #[.string m.1, .int .i64 m.2.1, .slice A1 m.2.2.1.length c1, .slice L1 m.2.2.2.1.length d1, .slice I1 m.2.2.2.2.1.length e1, .slice T1 m.2.2.2.2.2.length f1] 46)).alloc (.cells #[.string m.1, .int .i64 m.2.1, .slice A2 m.2.2.1.length c2, .slice L2 m.2.2.2.1.length d2, .slice I2 m.2.2.2.2.1.length e2, .slice T2 m.2.2.2.2.2.length f2] 46) := ⟨_, rfl⟩
  have hwb : Below w.heap.size w wb := by rw [hwr]; exact below_alloc (below_alloc (Below.refl _ _) _) _
  have HX1 : Aside0 (wb.heap[w.heap.size]? = some (.cells #[.string m.1, .int .i64 m.2.1, .slice A1 m.2.2.1.length c1, .slice L1 m.2.2.2.1.length d1, .slice I1 m.2.2.2.2.1.length e1, .slice T1 m.2.2.2.2.2.length f1] 46)) := ⟨by rw [hwr]; exact blk_alloc (heap_alloc_new w _) _⟩
  have HX2 : Aside0 (wb.heap[w.heap.size + 1]? = some (.cells #[.string m.1, .int .i64 m.2.1, .slice A2 m.2.2.1.length c2, .slice L2 m.2.2.2.1.length d2, .slice I2 m.2.2.2.2.1.length e2, .slice T2 m.2.2.2.2.2.length f2] 46)) := ⟨by rw [hwr]; have := heap_alloc_new (w.alloc (.cells #[.string m.1, .int .i64 m.2.1, .slice A1 m.2.2.1.length c1, .slice L1 m.2.2.2.1.length d1, .slice I1 m.2.2.2.2.1.length e1, .slice T1 m.2.2.2.2.2.length f1] 46)) (.cells #[.string m.1, .int .i64 m.2.1, .slice A2 m.2.2.1.length c2, .slice L2 m.2.2.2.1.length d2, .slice I2 m.2.2.2.2.1.length e2, .slice T2 m.2.2.2.2.2.length f2] 46); rwa [World.size_alloc] at this⟩
  rw [← hwr]
  clear hwr
  have HWB := Aside0.mk hwb
  have TW : ∀ (cs : List Value) (W : World), KMeta.K w m cs → Below wb.heap.size wb W → Calls Try.prog 18 #[.agg cs.toArray] W fun e w' => ∃ cs' VF VL, e = .returned (.agg cs'.toArray) ∧ MC m VF VL cs' ∧ TX W.heap.size (fun _ => True) m.2.2.1 m.2.2.2.1 VF VL w' ∧ Below W.heap.size W w' := by
    intro cs W hK hb
    refine (twinMeta_any m cs W (KMeta.K_below (below_step HWB.out hb) hK) hG).mono ?_
    rintro e w' ⟨cs', rfl, hM, hbel⟩
    obtain ⟨VF, VL, hmc, ht⟩ := TX_of hM
    exact ⟨cs', VF, VL, rfl, hmc, ht, hbel⟩
  have HT1 := Lib.hid (fun W h => TW _ W HK1.out h)
  have HT2 := Lib.hid (fun W h => TW _ W HK2.out h)
  clear TW hwb
  refine PrintLast.start_ (n := 8) (S := fun w' => Below wb.heap.size wb w') (ds := []) #[false, false, false, false, false, false, false, false] (by kernel_rfl) rfl rfl (below_drew1 (Below.refl _ _)) (fun hHeld => ?_)
  generalize wb.drew = W0 at *
  refine PrintLast.take_ (i := 0) (N := some 9) (v := .agg (#[.string m.1, .int .i64 m.2.1, .slice A1 m.2.2.1.length c1, .slice L1 m.2.2.2.1.length d1, .slice I1 m.2.2.2.2.1.length e1, .slice T1 m.2.2.2.2.2.length f1] : Array Value)) (a' := ?_) #[true, false, false, false, false, false, false, false] rfl rfl (by kernel_rfl) (fun _ _ _ h => h) (Or.inl ⟨by rfl, ?_⟩) hHeld ?_ ?_
  skip
  · intro w' s0
    exact Fl.exec_load (ty := 46) (x := .tmp 2) (ad := ⟨w.heap.size, 0, none⟩) (cs := (#[.string m.1, .int .i64 m.2.1, .slice A1 m.2.2.1.length c1, .slice L1 m.2.2.2.1.length d1, .slice I1 m.2.2.2.2.1.length e1, .slice T1 m.2.2.2.2.2.length f1] : Array Value)) (by rfl) (by rfl) (Fl.run_load (cs := [.string m.1, .int .i64 m.2.1, .slice A1 m.2.2.1.length c1, .slice L1 m.2.2.2.1.length d1, .slice I1 m.2.2.2.2.1.length e1, .slice T1 m.2.2.2.2.2.length f1]) (fun j u hj => cell_stay s0 (by rw [Go.WideShapes.add_plain, Go.Joins.cell_of_block HX1.out, List.getElem?_toArray, Nat.zero_add]; exact hj)) Try.underlying46 rfl (by kernel_rfl))
  rotate_left
  · simp only [Act.put, List.setIfInBounds_toArray, List.set_cons_zero, List.set_cons_succ]
    rfl
  refine PrintLast.take_ (i := 2) (N := some 11) (v := .agg (#[.string m.1, .int .i64 m.2.1, .slice A2 m.2.2.1.length c2, .slice L2 m.2.2.2.1.length d2, .slice I2 m.2.2.2.2.1.length e2, .slice T2 m.2.2.2.2.2.length f2] : Array Value)) (a' := ?_) #[true, false, true, false, false, false, false, false] rfl rfl (by kernel_rfl) (fun _ _ _ h => h) (Or.inl ⟨by rfl, ?_⟩) hHeld ?_ ?_
  skip
  · intro w' s0
    exact Fl.exec_load (ty := 46) (x := .tmp 3) (ad := ⟨w.heap.size + 1, 0, none⟩) (cs := (#[.string m.1, .int .i64 m.2.1, .slice A2 m.2.2.1.length c2, .slice L2 m.2.2.2.1.length d2, .slice I2 m.2.2.2.2.1.length e2, .slice T2 m.2.2.2.2.2.length f2] : Array Value)) (by rfl) (by rfl) (Fl.run_load (cs := [.string m.1, .int .i64 m.2.1, .slice A2 m.2.2.1.length c2, .slice L2 m.2.2.2.1.length d2, .slice I2 m.2.2.2.2.1.length e2, .slice T2 m.2.2.2.2.2.length f2]) (fun j u hj => cell_stay s0 (by rw [Go.WideShapes.add_plain, Go.Joins.cell_of_block HX2.out, List.getElem?_toArray, Nat.zero_add]; exact hj)) Try.underlying46 rfl (by kernel_rfl))
  rotate_left
  · simp only [Act.put, List.setIfInBounds_toArray, List.set_cons_zero, List.set_cons_succ]
    rfl
  refine PrintLast.join_ (σ := Nat × Nat × List Value × List Value) 2 #[true, true, true, true, true, true, false, false] (fun s => [(10, .agg s.2.2.1.toArray), (12, .agg s.2.2.2.toArray), (5, .pointer (some ⟨s.1, 0, none⟩)), (6, .pointer (some ⟨s.2.1, 0, none⟩))]) (fun s W => FJ m w wb s W) ?_ ?_
  rotate_left
  · intro hJ
    have hS0 := hHeld
    refine PrintLast.three_ (i := 1) (j := 4) (k := 5) (Ni := some 10) (Nj := some 5) (Nk := some 6) #[true, true, true, false, false, false, false, false] #[true, false, true, false, true, false, false, false] #[true, false, true, false, false, true, false, false] rfl rfl rfl rfl rfl rfl (by kernel_rfl) (by decide) (by decide) (by decide) (fun K hK => ?_) (fun K hK => ?_) (fun K hK => ?_) 
    · skip
      refine PrintLast.goes_ Try.func18 (by kernel_rfl) rfl #[.agg (#[.string m.1, .int .i64 m.2.1, .slice A1 m.2.2.1.length c1, .slice L1 m.2.2.2.1.length d1, .slice I1 m.2.2.2.2.1.length e1, .slice T1 m.2.2.2.2.2.length f1] : Array Value)] (by rfl) rfl rfl (by simp only [List.map_toArray, List.map_cons, List.map_nil]; rfl) ?_
      refine (HT1.out W0 hHeld).mono ?_
      rintro e W1 ⟨cs10, VF1, VL1, rfl, e10, tx, hst⟩
      refine ⟨_, rfl, hK.out _ _ (below_step hHeld hst) (fun hHeld => ?_)⟩
      clear hK K
      refine PrintLast.norm_ (a' := ?_) ?_ ?_
      rotate_left
      · show Act.put _ (some 10) _ = _
        simp only [Act.put, List.setIfInBounds_toArray, List.set_cons_zero, List.set_cons_succ]
        rfl
      replace tx := tx.lower hS0.size
      have hS1 := hHeld
      refine PrintLast.three_ (i := 3) (j := 4) (k := 5) (Ni := some 12) (Nj := some 5) (Nk := some 6) #[true, true, true, true, false, false, false, false] #[true, true, true, false, true, false, false, false] #[true, true, true, false, false, true, false, false] rfl rfl rfl rfl rfl rfl (by kernel_rfl) (by decide) (by decide) (by decide) (fun K hK => ?_) (fun K hK => ?_) (fun K hK => ?_) 
      · skip
        refine PrintLast.goes_ Try.func18 (by kernel_rfl) rfl #[.agg (#[.string m.1, .int .i64 m.2.1, .slice A2 m.2.2.1.length c2, .slice L2 m.2.2.2.1.length d2, .slice I2 m.2.2.2.2.1.length e2, .slice T2 m.2.2.2.2.2.length f2] : Array Value)] (by rfl) rfl rfl (by simp only [List.map_toArray, List.map_cons, List.map_nil]; rfl) ?_
        refine (HT2.out W1 hHeld).mono ?_
        rintro e W2 ⟨cs12, VF2, VL2, rfl, e12, ty, hst⟩
        refine ⟨_, rfl, hK.out _ _ (below_step hHeld hst) (fun hHeld => ?_)⟩
        clear hK K
        refine PrintLast.norm_ (a' := ?_) ?_ ?_
        rotate_left
        · show Act.put _ (some 12) _ = _
          simp only [Act.put, List.setIfInBounds_toArray, List.set_cons_zero, List.set_cons_succ]
          rfl
        replace tx := tx.upto
        replace ty := ty.from_ hS1.size
        replace tx := tx.below hst
        have hS2 := hHeld
        refine PrintLast.two_ (i := 4) (j := 5) (Ni := some 5) (Nj := some 6) #[true, true, true, true, true, false, false, false] #[true, true, true, true, false, true, false, false] rfl rfl rfl rfl (by kernel_rfl) (by decide) (by decide) (fun K hK => ?_) (fun K hK => ?_) 
        · skip
          refine PrintLast.value_ (w1 := W2.alloc (.cells zM 46)) (v := .pointer (some ⟨W2.heap.size, 0, none⟩)) (by rfl) rfl ?_ ?_
          · exact Fl.exec_alloc (t := 46) (zs := zM) (by rfl) zeroM0
          have hst := below_alloc (Below.refl W2.heap.size W2) (.cells zM 46)
          refine hK.out _ _ (below_step hHeld hst) (fun hHeld => ?_)
          clear hK K
          refine PrintLast.norm_ (a' := ?_) ?_ ?_
          rotate_left
          · show Act.put _ (some 5) _ = _
            simp only [Act.put, List.setIfInBounds_toArray, List.set_cons_zero, List.set_cons_succ]
            rfl
          have h5 := heap_alloc_new W2 (.cells zM 46)
          have l5 : wb.heap.size ≤ W2.heap.size := hS2.size
          replace tx := tx.below hst
          replace ty := ty.below hst
          generalize W2.alloc (.cells zM 46) = W3 at *
          obtain ⟨g5, hg5⟩ : ∃ g, g = W2.heap.size := ⟨_, rfl⟩
          rw [← hg5] at h5 l5 ⊢
          have hS3 := hHeld
          refine PrintLast.one_ (i := 5) (N := some 6) #[true, true, true, true, true, true, false, false] rfl rfl (by kernel_rfl) (by decide) (fun K hK => ?_)
          refine PrintLast.value_ (w1 := W3.alloc (.cells zM 46)) (v := .pointer (some ⟨W3.heap.size, 0, none⟩)) (by rfl) rfl ?_ ?_
          · exact Fl.exec_alloc (t := 46) (zs := zM) (by rfl) zeroM0
          have hst := below_alloc (Below.refl W3.heap.size W3) (.cells zM 46)
          refine hK.out _ _ (below_step hHeld hst) (fun hHeld => ?_)
          clear hK K
          refine PrintLast.norm_ (a' := ?_) ?_ ?_
          rotate_left
          · show Act.put _ (some 6) _ = _
            simp only [Act.put, List.setIfInBounds_toArray, List.set_cons_zero, List.set_cons_succ]
            rfl
          have h6 := heap_alloc_new W3 (.cells zM 46)
          have l6 : wb.heap.size ≤ W3.heap.size := hS3.size
          have hne : g5 ≠ W3.heap.size := by have := blk_lt h5; omega
          replace h5 := blk_below h5 hst
          replace tx := tx.below hst
          replace ty := ty.below hst
          generalize W3.alloc (.cells zM 46) = W4 at *
          obtain ⟨g6, hg6⟩ : ∃ g, g = W3.heap.size := ⟨_, rfl⟩
          rw [← hg6] at h6 l6 hne ⊢
          have hS4 := hHeld
          refine PrintLast.norm_ (a' := PrintLast.putAll _ _) ?_ (hJ ⟨g5, g6, cs10, cs12⟩ W4 ⟨_, VF1, VL1, VF2, VL2, e10, e12, hne, l5, l6, h5, h6, tx, ty, hHeld⟩)
          rfl
        · skip
          refine PrintLast.value_ (w1 := W2.alloc (.cells zM 46)) (v := .pointer (some ⟨W2.heap.size, 0, none⟩)) (by rfl) rfl ?_ ?_
          · exact Fl.exec_alloc (t := 46) (zs := zM) (by rfl) zeroM0
          have hst := below_alloc (Below.refl W2.heap.size W2) (.cells zM 46)
          refine hK.out _ _ (below_step hHeld hst) (fun hHeld => ?_)
          clear hK K
          refine PrintLast.norm_ (a' := ?_) ?_ ?_
          rotate_left
          · show Act.put _ (some 6) _ = _
            simp only [Act.put, List.setIfInBounds_toArray, List.set_cons_zero, List.set_cons_succ]
            rfl
          have h6 := heap_alloc_new W2 (.cells zM 46)
          have l6 : wb.heap.size ≤ W2.heap.size := hS2.size
          replace tx := tx.below hst
          replace ty := ty.below hst
          generalize W2.alloc (.cells zM 46) = W3 at *
          obtain ⟨g6, hg6⟩ : ∃ g, g = W2.heap.size := ⟨_, rfl⟩
          rw [← hg6] at h6 l6 ⊢
          have hS3 := hHeld
          refine PrintLast.one_ (i := 4) (N := some 5) #[true, true, true, true, true, true, false, false] rfl rfl (by kernel_rfl) (by decide) (fun K hK => ?_)
          refine PrintLast.value_ (w1 := W3.alloc (.cells zM 46)) (v := .pointer (some ⟨W3.heap.size, 0, none⟩)) (by rfl) rfl ?_ ?_
          · exact Fl.exec_alloc (t := 46) (zs := zM) (by rfl) zeroM0
          have hst := below_alloc (Below.refl W3.heap.size W3) (.cells zM 46)
          refine hK.out _ _ (below_step hHeld hst) (fun hHeld => ?_)
          clear hK K
          refine PrintLast.norm_ (a' := ?_) ?_ ?_
          rotate_left
          · show Act.put _ (some 5) _ = _
            simp only [Act.put, List.setIfInBounds_toArray, List.set_cons_zero, List.set_cons_succ]
            rfl
          have h5 := heap_alloc_new W3 (.cells zM 46)
          have l5 : wb.heap.size ≤ W3.heap.size := hS3.size
          have hne : W3.heap.size ≠ g6 := by have := blk_lt h6; omega
          replace h6 := blk_below h6 hst
          replace tx := tx.below hst
          replace ty := ty.below hst
          generalize W3.alloc (.cells zM 46) = W4 at *
          obtain ⟨g5, hg5⟩ : ∃ g, g = W3.heap.size := ⟨_, rfl⟩
          rw [← hg5] at h5 l5 hne ⊢
          have hS4 := hHeld
          refine PrintLast.norm_ (a' := PrintLast.putAll _ _) ?_ (hJ ⟨g5, g6, cs10, cs12⟩ W4 ⟨_, VF1, VL1, VF2, VL2, e10, e12, hne, l5, l6, h5, h6, tx, ty, hHeld⟩)
          rfl
      · skip
        refine PrintLast.value_ (w1 := W1.alloc (.cells zM 46)) (v := .pointer (some ⟨W1.heap.size, 0, none⟩)) (by rfl) rfl ?_ ?_
        · exact Fl.exec_alloc (t := 46) (zs := zM) (by rfl) zeroM0
        have hst := below_alloc (Below.refl W1.heap.size W1) (.cells zM 46)
        refine hK.out _ _ (below_step hHeld hst) (fun hHeld => ?_)
        clear hK K
        refine PrintLast.norm_ (a' := ?_) ?_ ?_
        rotate_left
        · show Act.put _ (some 5) _ = _
          simp only [Act.put, List.setIfInBounds_toArray, List.set_cons_zero, List.set_cons_succ]
          rfl
        have h5 := heap_alloc_new W1 (.cells zM 46)
        have l5 : wb.heap.size ≤ W1.heap.size := hS1.size
        replace tx := tx.below hst
        generalize W1.alloc (.cells zM 46) = W2 at *
        obtain ⟨g5, hg5⟩ : ∃ g, g = W1.heap.size := ⟨_, rfl⟩
        rw [← hg5] at h5 l5 ⊢
        have hS2 := hHeld
        refine PrintLast.two_ (i := 3) (j := 5) (Ni := some 12) (Nj := some 6) #[true, true, true, true, true, false, false, false] #[true, true, true, false, true, true, false, false] rfl rfl rfl rfl (by kernel_rfl) (by decide) (by decide) (fun K hK => ?_) (fun K hK => ?_) 
        · skip
          refine PrintLast.goes_ Try.func18 (by kernel_rfl) rfl #[.agg (#[.string m.1, .int .i64 m.2.1, .slice A2 m.2.2.1.length c2, .slice L2 m.2.2.2.1.length d2, .slice I2 m.2.2.2.2.1.length e2, .slice T2 m.2.2.2.2.2.length f2] : Array Value)] (by rfl) rfl rfl (by simp only [List.map_toArray, List.map_cons, List.map_nil]; rfl) ?_
          refine (HT2.out W2 hHeld).mono ?_
          rintro e W3 ⟨cs12, VF2, VL2, rfl, e12, ty, hst⟩
          refine ⟨_, rfl, hK.out _ _ (below_step hHeld hst) (fun hHeld => ?_)⟩
          clear hK K
          refine PrintLast.norm_ (a' := ?_) ?_ ?_
          rotate_left
          · show Act.put _ (some 12) _ = _
            simp only [Act.put, List.setIfInBounds_toArray, List.set_cons_zero, List.set_cons_succ]
            rfl
          replace tx := tx.upto
          replace ty := ty.from_ hS2.size
          replace h5 := blk_below h5 hst
          replace tx := tx.below hst
          have hS3 := hHeld
          refine PrintLast.one_ (i := 5) (N := some 6) #[true, true, true, true, true, true, false, false] rfl rfl (by kernel_rfl) (by decide) (fun K hK => ?_)
          refine PrintLast.value_ (w1 := W3.alloc (.cells zM 46)) (v := .pointer (some ⟨W3.heap.size, 0, none⟩)) (by rfl) rfl ?_ ?_
          · exact Fl.exec_alloc (t := 46) (zs := zM) (by rfl) zeroM0
          have hst := below_alloc (Below.refl W3.heap.size W3) (.cells zM 46)
          refine hK.out _ _ (below_step hHeld hst) (fun hHeld => ?_)
          clear hK K
          refine PrintLast.norm_ (a' := ?_) ?_ ?_
          rotate_left
          · show Act.put _ (some 6) _ = _
            simp only [Act.put, List.setIfInBounds_toArray, List.set_cons_zero, List.set_cons_succ]
            rfl
          have h6 := heap_alloc_new W3 (.cells zM 46)
          have l6 : wb.heap.size ≤ W3.heap.size := hS3.size
          have hne : g5 ≠ W3.heap.size := by have := blk_lt h5; omega
          replace h5 := blk_below h5 hst
          replace tx := tx.below hst
          replace ty := ty.below hst
          generalize W3.alloc (.cells zM 46) = W4 at *
          obtain ⟨g6, hg6⟩ : ∃ g, g = W3.heap.size := ⟨_, rfl⟩
          rw [← hg6] at h6 l6 hne ⊢
          have hS4 := hHeld
          refine PrintLast.norm_ (a' := PrintLast.putAll _ _) ?_ (hJ ⟨g5, g6, cs10, cs12⟩ W4 ⟨_, VF1, VL1, VF2, VL2, e10, e12, hne, l5, l6, h5, h6, tx, ty, hHeld⟩)
          rfl
        · skip
          refine PrintLast.value_ (w1 := W2.alloc (.cells zM 46)) (v := .pointer (some ⟨W2.heap.size, 0, none⟩)) (by rfl) rfl ?_ ?_
          · exact Fl.exec_alloc (t := 46) (zs := zM) (by rfl) zeroM0
          have hst := below_alloc (Below.refl W2.heap.size W2) (.cells zM 46)
          refine hK.out _ _ (below_step hHeld hst) (fun hHeld => ?_)
          clear hK K
          refine PrintLast.norm_ (a' := ?_) ?_ ?_
          rotate_left
          · show Act.put _ (some 6) _ = _
            simp only [Act.put, List.setIfInBounds_toArray, List.set_cons_zero, List.set_cons_succ]
            rfl
          have h6 := heap_alloc_new W2 (.cells zM 46)
          have l6 : wb.heap.size ≤ W2.heap.size := hS2.size
          have hne : g5 ≠ W2.heap.size := by have := blk_lt h5; omega
          replace h5 := blk_below h5 hst
          replace tx := tx.below hst
          generalize W2.alloc (.cells zM 46) = W3 at *
          obtain ⟨g6, hg6⟩ : ∃ g, g = W2.heap.size := ⟨_, rfl⟩
          rw [← hg6] at h6 l6 hne ⊢
          have hS3 := hHeld
          refine PrintLast.one_ (i := 3) (N := some 12) #[true, true, true, true, true, true, false, false] rfl rfl (by kernel_rfl) (by decide) (fun K hK => ?_)
          refine PrintLast.goes_ Try.func18 (by kernel_rfl) rfl #[.agg (#[.string m.1, .int .i64 m.2.1, .slice A2 m.2.2.1.length c2, .slice L2 m.2.2.2.1.length d2, .slice I2 m.2.2.2.2.1.length e2, .slice T2 m.2.2.2.2.2.length f2] : Array Value)] (by rfl) rfl rfl (by simp only [List.map_toArray, List.map_cons, List.map_nil]; rfl) ?_
          refine (HT2.out W3 hHeld).mono ?_
          rintro e W4 ⟨cs12, VF2, VL2, rfl, e12, ty, hst⟩
          refine ⟨_, rfl, hK.out _ _ (below_step hHeld hst) (fun hHeld => ?_)⟩
          clear hK K
          refine PrintLast.norm_ (a' := ?_) ?_ ?_
          rotate_left
          · show Act.put _ (some 12) _ = _
            simp only [Act.put, List.setIfInBounds_toArray, List.set_cons_zero, List.set_cons_succ]
            rfl
          replace tx := tx.upto
          replace ty := ty.from_ hS3.size
          replace h5 := blk_below h5 hst
          replace h6 := blk_below h6 hst
          replace tx := tx.below hst
          have hS4 := hHeld
          refine PrintLast.norm_ (a' := PrintLast.putAll _ _) ?_ (hJ ⟨g5, g6, cs10, cs12⟩ W4 ⟨_, VF1, VL1, VF2, VL2, e10, e12, hne, l5, l6, h5, h6, tx, ty, hHeld⟩)
          rfl
      · skip
        refine PrintLast.value_ (w1 := W1.alloc (.cells zM 46)) (v := .pointer (some ⟨W1.heap.size, 0, none⟩)) (by rfl) rfl ?_ ?_
        · exact Fl.exec_alloc (t := 46) (zs := zM) (by rfl) zeroM0
        have hst := below_alloc (Below.refl W1.heap.size W1) (.cells zM 46)
        refine hK.out _ _ (below_step hHeld hst) (fun hHeld => ?_)
        clear hK K
        refine PrintLast.norm_ (a' := ?_) ?_ ?_
        rotate_left
        · show Act.put _ (some 6) _ = _
          simp only [Act.put, List.setIfInBounds_toArray, List.set_cons_zero, List.set_cons_succ]
          rfl
        have h6 := heap_alloc_new W1 (.cells zM 46)
        have l6 : wb.heap.size ≤ W1.heap.size := hS1.size
        replace tx := tx.below hst
        generalize W1.alloc (.cells zM 46) = W2 at *
        obtain ⟨g6, hg6⟩ : ∃ g, g = W1.heap.size := ⟨_, rfl⟩
        rw [← hg6] at h6 l6 ⊢
        have hS2 := hHeld
        refine PrintLast.two_ (i := 3) (j := 4) (Ni := some 12) (Nj := some 5) #[true, true, true, true, false, true, false, false] #[true, true, true, false, true, true, false, false] rfl rfl rfl rfl (by kernel_rfl) (by decide) (by decide) (fun K hK => ?_) (fun K hK => ?_) 
        · skip
          refine PrintLast.goes_ Try.func18 (by kernel_rfl) rfl #[.agg (#[.string m.1, .int .i64 m.2.1, .slice A2 m.2.2.1.length c2, .slice L2 m.2.2.2.1.length d2, .slice I2 m.2.2.2.2.1.length e2, .slice T2 m.2.2.2.2.2.length f2] : Array Value)] (by rfl) rfl rfl (by simp only [List.map_toArray, List.map_cons, List.map_nil]; rfl) ?_
          refine (HT2.out W2 hHeld).mono ?_
          rintro e W3 ⟨cs12, VF2, VL2, rfl, e12, ty, hst⟩
          refine ⟨_, rfl, hK.out _ _ (below_step hHeld hst) (fun hHeld => ?_)⟩
          clear hK K
          refine PrintLast.norm_ (a' := ?_) ?_ ?_
          rotate_left
          · show Act.put _ (some 12) _ = _
            simp only [Act.put, List.setIfInBounds_toArray, List.set_cons_zero, List.set_cons_succ]
            rfl
          replace tx := tx.upto
          replace ty := ty.from_ hS2.size
          replace h6 := blk_below h6 hst
          replace tx := tx.below hst
          have hS3 := hHeld
          refine PrintLast.one_ (i := 4) (N := some 5) #[true, true, true, true, true, true, false, false] rfl rfl (by kernel_rfl) (by decide) (fun K hK => ?_)
          refine PrintLast.value_ (w1 := W3.alloc (.cells zM 46)) (v := .pointer (some ⟨W3.heap.size, 0, none⟩)) (by rfl) rfl ?_ ?_
          · exact Fl.exec_alloc (t := 46) (zs := zM) (by rfl) zeroM0
          have hst := below_alloc (Below.refl W3.heap.size W3) (.cells zM 46)
          refine hK.out _ _ (below_step hHeld hst) (fun hHeld => ?_)
          clear hK K
          refine PrintLast.norm_ (a' := ?_) ?_ ?_
          rotate_left
          · show Act.put _ (some 5) _ = _
            simp only [Act.put, List.setIfInBounds_toArray, List.set_cons_zero, List.set_cons_succ]
            rfl
          have h5 := heap_alloc_new W3 (.cells zM 46)
          have l5 : wb.heap.size ≤ W3.heap.size := hS3.size
          have hne : W3.heap.size ≠ g6 := by have := blk_lt h6; omega
          replace h6 := blk_below h6 hst
          replace tx := tx.below hst
          replace ty := ty.below hst
          generalize W3.alloc (.cells zM 46) = W4 at *
          obtain ⟨g5, hg5⟩ : ∃ g, g = W3.heap.size := ⟨_, rfl⟩
          rw [← hg5] at h5 l5 hne ⊢
          have hS4 := hHeld
          refine PrintLast.norm_ (a' := PrintLast.putAll _ _) ?_ (hJ ⟨g5, g6, cs10, cs12⟩ W4 ⟨_, VF1, VL1, VF2, VL2, e10, e12, hne, l5, l6, h5, h6, tx, ty, hHeld⟩)
          rfl
        · skip
          refine PrintLast.value_ (w1 := W2.alloc (.cells zM 46)) (v := .pointer (some ⟨W2.heap.size, 0, none⟩)) (by rfl) rfl ?_ ?_
          · exact Fl.exec_alloc (t := 46) (zs := zM) (by rfl) zeroM0
          have hst := below_alloc (Below.refl W2.heap.size W2) (.cells zM 46)
          refine hK.out _ _ (below_step hHeld hst) (fun hHeld => ?_)
          clear hK K
          refine PrintLast.norm_ (a' := ?_) ?_ ?_
          rotate_left
          · show Act.put _ (some 5) _ = _
            simp only [Act.put, List.setIfInBounds_toArray, List.set_cons_zero, List.set_cons_succ]
            rfl
          have h5 := heap_alloc_new W2 (.cells zM 46)
          have l5 : wb.heap.size ≤ W2.heap.size := hS2.size
          have hne : W2.heap.size ≠ g6 := by have := blk_lt h6; omega
          replace h6 := blk_below h6 hst
          replace tx := tx.below hst
          generalize W2.alloc (.cells zM 46) = W3 at *
          obtain ⟨g5, hg5⟩ : ∃ g, g = W2.heap.size := ⟨_, rfl⟩
          rw [← hg5] at h5 l5 hne ⊢
          have hS3 := hHeld
          refine PrintLast.one_ (i := 3) (N := some 12) #[true, true, true, true, true, true, false, false] rfl rfl (by kernel_rfl) (by decide) (fun K hK => ?_)
          refine PrintLast.goes_ Try.func18 (by kernel_rfl) rfl #[.agg (#[.string m.1, .int .i64 m.2.1, .slice A2 m.2.2.1.length c2, .slice L2 m.2.2.2.1.length d2, .slice I2 m.2.2.2.2.1.length e2, .slice T2 m.2.2.2.2.2.length f2] : Array Value)] (by rfl) rfl rfl (by simp only [List.map_toArray, List.map_cons, List.map_nil]; rfl) ?_
          refine (HT2.out W3 hHeld).mono ?_
          rintro e W4 ⟨cs12, VF2, VL2, rfl, e12, ty, hst⟩
          refine ⟨_, rfl, hK.out _ _ (below_step hHeld hst) (fun hHeld => ?_)⟩
          clear hK K
          refine PrintLast.norm_ (a' := ?_) ?_ ?_
          rotate_left
          · show Act.put _ (some 12) _ = _
            simp only [Act.put, List.setIfInBounds_toArray, List.set_cons_zero, List.set_cons_succ]
            rfl
          replace tx := tx.upto
          replace ty := ty.from_ hS3.size
          replace h5 := blk_below h5 hst
          replace h6 := blk_below h6 hst
          replace tx := tx.below hst
          have hS4 := hHeld
          refine PrintLast.norm_ (a' := PrintLast.putAll _ _) ?_ (hJ ⟨g5, g6, cs10, cs12⟩ W4 ⟨_, VF1, VL1, VF2, VL2, e10, e12, hne, l5, l6, h5, h6, tx, ty, hHeld⟩)
          rfl
    · skip
      refine PrintLast.value_ (w1 := W0.alloc (.cells zM 46)) (v := .pointer (some ⟨W0.heap.size, 0, none⟩)) (by rfl) rfl ?_ ?_
      · exact Fl.exec_alloc (t := 46) (zs := zM) (by rfl) zeroM0
      have hst := below_alloc (Below.refl W0.heap.size W0) (.cells zM 46)
      refine hK.out _ _ (below_step hHeld hst) (fun hHeld => ?_)
      clear hK K
      refine PrintLast.norm_ (a' := ?_) ?_ ?_
      rotate_left
      · show Act.put _ (some 5) _ = _
        simp only [Act.put, List.setIfInBounds_toArray, List.set_cons_zero, List.set_cons_succ]
        rfl
      have h5 := heap_alloc_new W0 (.cells zM 46)
      have l5 : wb.heap.size ≤ W0.heap.size := hS0.size
      generalize W0.alloc (.cells zM 46) = W1 at *
      obtain ⟨g5, hg5⟩ : ∃ g, g = W0.heap.size := ⟨_, rfl⟩
      rw [← hg5] at h5 l5 ⊢
      have hS1 := hHeld
      refine PrintLast.two_ (i := 1) (j := 5) (Ni := some 10) (Nj := some 6) #[true, true, true, false, true, false, false, false] #[true, false, true, false, true, true, false, false] rfl rfl rfl rfl (by kernel_rfl) (by decide) (by decide) (fun K hK => ?_) (fun K hK => ?_) 
      · skip
        refine PrintLast.goes_ Try.func18 (by kernel_rfl) rfl #[.agg (#[.string m.1, .int .i64 m.2.1, .slice A1 m.2.2.1.length c1, .slice L1 m.2.2.2.1.length d1, .slice I1 m.2.2.2.2.1.length e1, .slice T1 m.2.2.2.2.2.length f1] : Array Value)] (by rfl) rfl rfl (by simp only [List.map_toArray, List.map_cons, List.map_nil]; rfl) ?_
        refine (HT1.out W1 hHeld).mono ?_
        rintro e W2 ⟨cs10, VF1, VL1, rfl, e10, tx, hst⟩
        refine ⟨_, rfl, hK.out _ _ (below_step hHeld hst) (fun hHeld => ?_)⟩
        clear hK K
        refine PrintLast.norm_ (a' := ?_) ?_ ?_
        rotate_left
        · show Act.put _ (some 10) _ = _
          simp only [Act.put, List.setIfInBounds_toArray, List.set_cons_zero, List.set_cons_succ]
          rfl
        replace tx := tx.lower hS1.size
        replace h5 := blk_below h5 hst
        have hS2 := hHeld
        refine PrintLast.two_ (i := 3) (j := 5) (Ni := some 12) (Nj := some 6) #[true, true, true, true, true, false, false, false] #[true, true, true, false, true, true, false, false] rfl rfl rfl rfl (by kernel_rfl) (by decide) (by decide) (fun K hK => ?_) (fun K hK => ?_) 
        · skip
          refine PrintLast.goes_ Try.func18 (by kernel_rfl) rfl #[.agg (#[.string m.1, .int .i64 m.2.1, .slice A2 m.2.2.1.length c2, .slice L2 m.2.2.2.1.length d2, .slice I2 m.2.2.2.2.1.length e2, .slice T2 m.2.2.2.2.2.length f2] : Array Value)] (by rfl) rfl rfl (by simp only [List.map_toArray, List.map_cons, List.map_nil]; rfl) ?_
          refine (HT2.out W2 hHeld).mono ?_
          rintro e W3 ⟨cs12, VF2, VL2, rfl, e12, ty, hst⟩
          refine ⟨_, rfl, hK.out _ _ (below_step hHeld hst) (fun hHeld => ?_)⟩
          clear hK K
          refine PrintLast.norm_ (a' := ?_) ?_ ?_
          rotate_left
          · show Act.put _ (some 12) _ = _
            simp only [Act.put, List.setIfInBounds_toArray, List.set_cons_zero, List.set_cons_succ]
            rfl
          replace tx := tx.upto
          replace ty := ty.from_ hS2.size
          replace h5 := blk_below h5 hst
          replace tx := tx.below hst
          have hS3 := hHeld
          refine PrintLast.one_ (i := 5) (N := some 6) #[true, true, true, true, true, true, false, false] rfl rfl (by kernel_rfl) (by decide) (fun K hK => ?_)
          refine PrintLast.value_ (w1 := W3.alloc (.cells zM 46)) (v := .pointer (some ⟨W3.heap.size, 0, none⟩)) (by rfl) rfl ?_ ?_
          · exact Fl.exec_alloc (t := 46) (zs := zM) (by rfl) zeroM0
          have hst := below_alloc (Below.refl W3.heap.size W3) (.cells zM 46)
          refine hK.out _ _ (below_step hHeld hst) (fun hHeld => ?_)
          clear hK K
          refine PrintLast.norm_ (a' := ?_) ?_ ?_
          rotate_left
          · show Act.put _ (some 6) _ = _
            simp only [Act.put, List.setIfInBounds_toArray, List.set_cons_zero, List.set_cons_succ]
            rfl
          have h6 := heap_alloc_new W3 (.cells zM 46)
          have l6 : wb.heap.size ≤ W3.heap.size := hS3.size
          have hne : g5 ≠ W3.heap.size := by have := blk_lt h5; omega
          replace h5 := blk_below h5 hst
          replace tx := tx.below hst
          replace ty := ty.below hst
          generalize W3.alloc (.cells zM 46) = W4 at *
          obtain ⟨g6, hg6⟩ : ∃ g, g = W3.heap.size := ⟨_, rfl⟩
          rw [← hg6] at h6 l6 hne ⊢
          have hS4 := hHeld
          refine PrintLast.norm_ (a' := PrintLast.putAll _ _) ?_ (hJ ⟨g5, g6, cs10, cs12⟩ W4 ⟨_, VF1, VL1, VF2, VL2, e10, e12, hne, l5, l6, h5, h6, tx, ty, hHeld⟩)
          rfl
        · skip
          refine PrintLast.value_ (w1 := W2.alloc (.cells zM 46)) (v := .pointer (some ⟨W2.heap.size, 0, none⟩)) (by rfl) rfl ?_ ?_
          · exact Fl.exec_alloc (t := 46) (zs := zM) (by rfl) zeroM0
          have hst := below_alloc (Below.refl W2.heap.size W2) (.cells zM 46)
          refine hK.out _ _ (below_step hHeld hst) (fun hHeld => ?_)
          clear hK K
          refine PrintLast.norm_ (a' := ?_) ?_ ?_
          rotate_left
          · show Act.put _ (some 6) _ = _
            simp only [Act.put, List.setIfInBounds_toArray, List.set_cons_zero, List.set_cons_succ]
            rfl
          have h6 := heap_alloc_new W2 (.cells zM 46)
          have l6 : wb.heap.size ≤ W2.heap.size := hS2.size
          have hne : g5 ≠ W2.heap.size := by have := blk_lt h5; omega
          replace h5 := blk_below h5 hst
          replace tx := tx.below hst
          generalize W2.alloc (.cells zM 46) = W3 at *
          obtain ⟨g6, hg6⟩ : ∃ g, g = W2.heap.size := ⟨_, rfl⟩
          rw [← hg6] at h6 l6 hne ⊢
          have hS3 := hHeld
          refine PrintLast.one_ (i := 3) (N := some 12) #[true, true, true, true, true, true, false, false] rfl rfl (by kernel_rfl) (by decide) (fun K hK => ?_)
          refine PrintLast.goes_ Try.func18 (by kernel_rfl) rfl #[.agg (#[.string m.1, .int .i64 m.2.1, .slice A2 m.2.2.1.length c2, .slice L2 m.2.2.2.1.length d2, .slice I2 m.2.2.2.2.1.length e2, .slice T2 m.2.2.2.2.2.length f2] : Array Value)] (by rfl) rfl rfl (by simp only [List.map_toArray, List.map_cons, List.map_nil]; rfl) ?_
          refine (HT2.out W3 hHeld).mono ?_
          rintro e W4 ⟨cs12, VF2, VL2, rfl, e12, ty, hst⟩
          refine ⟨_, rfl, hK.out _ _ (below_step hHeld hst) (fun hHeld => ?_)⟩
          clear hK K
          refine PrintLast.norm_ (a' := ?_) ?_ ?_
          rotate_left
          · show Act.put _ (some 12) _ = _
            simp only [Act.put, List.setIfInBounds_toArray, List.set_cons_zero, List.set_cons_succ]
            rfl
          replace tx := tx.upto
          replace ty := ty.from_ hS3.size
          replace h5 := blk_below h5 hst
          replace h6 := blk_below h6 hst
          replace tx := tx.below hst
          have hS4 := hHeld
          refine PrintLast.norm_ (a' := PrintLast.putAll _ _) ?_ (hJ ⟨g5, g6, cs10, cs12⟩ W4 ⟨_, VF1, VL1, VF2, VL2, e10, e12, hne, l5, l6, h5, h6, tx, ty, hHeld⟩)
          rfl
      · skip
        refine PrintLast.value_ (w1 := W1.alloc (.cells zM 46)) (v := .pointer (some ⟨W1.heap.size, 0, none⟩)) (by rfl) rfl ?_ ?_
        · exact Fl.exec_alloc (t := 46) (zs := zM) (by rfl) zeroM0
        have hst := below_alloc (Below.refl W1.heap.size W1) (.cells zM 46)
        refine hK.out _ _ (below_step hHeld hst) (fun hHeld => ?_)
        clear hK K
        refine PrintLast.norm_ (a' := ?_) ?_ ?_
        rotate_left
        · show Act.put _ (some 6) _ = _
          simp only [Act.put, List.setIfInBounds_toArray, List.set_cons_zero, List.set_cons_succ]
          rfl
        have h6 := heap_alloc_new W1 (.cells zM 46)
        have l6 : wb.heap.size ≤ W1.heap.size := hS1.size
        have hne : g5 ≠ W1.heap.size := by have := blk_lt h5; omega
        replace h5 := blk_below h5 hst
        generalize W1.alloc (.cells zM 46) = W2 at *
        obtain ⟨g6, hg6⟩ : ∃ g, g = W1.heap.size := ⟨_, rfl⟩
        rw [← hg6] at h6 l6 hne ⊢
        have hS2 := hHeld
        refine PrintLast.one_ (i := 1) (N := some 10) #[true, true, true, false, true, true, false, false] rfl rfl (by kernel_rfl) (by decide) (fun K hK => ?_)
        refine PrintLast.goes_ Try.func18 (by kernel_rfl) rfl #[.agg (#[.string m.1, .int .i64 m.2.1, .slice A1 m.2.2.1.length c1, .slice L1 m.2.2.2.1.length d1, .slice I1 m.2.2.2.2.1.length e1, .slice T1 m.2.2.2.2.2.length f1] : Array Value)] (by rfl) rfl rfl (by simp only [List.map_toArray, List.map_cons, List.map_nil]; rfl) ?_
        refine (HT1.out W2 hHeld).mono ?_
        rintro e W3 ⟨cs10, VF1, VL1, rfl, e10, tx, hst⟩
        refine ⟨_, rfl, hK.out _ _ (below_step hHeld hst) (fun hHeld => ?_)⟩
        clear hK K
        refine PrintLast.norm_ (a' := ?_) ?_ ?_
        rotate_left
        · show Act.put _ (some 10) _ = _
          simp only [Act.put, List.setIfInBounds_toArray, List.set_cons_zero, List.set_cons_succ]
          rfl
        replace tx := tx.lower hS2.size
        replace h5 := blk_below h5 hst
        replace h6 := blk_below h6 hst
        have hS3 := hHeld
        refine PrintLast.one_ (i := 3) (N := some 12) #[true, true, true, true, true, true, false, false] rfl rfl (by kernel_rfl) (by decide) (fun K hK => ?_)
        refine PrintLast.goes_ Try.func18 (by kernel_rfl) rfl #[.agg (#[.string m.1, .int .i64 m.2.1, .slice A2 m.2.2.1.length c2, .slice L2 m.2.2.2.1.length d2, .slice I2 m.2.2.2.2.1.length e2, .slice T2 m.2.2.2.2.2.length f2] : Array Value)] (by rfl) rfl rfl (by simp only [List.map_toArray, List.map_cons, List.map_nil]; rfl) ?_
        refine (HT2.out W3 hHeld).mono ?_
        rintro e W4 ⟨cs12, VF2, VL2, rfl, e12, ty, hst⟩
        refine ⟨_, rfl, hK.out _ _ (below_step hHeld hst) (fun hHeld => ?_)⟩
        clear hK K
        refine PrintLast.norm_ (a' := ?_) ?_ ?_
        rotate_left
        · show Act.put _ (some 12) _ = _
          simp only [Act.put, List.setIfInBounds_toArray, List.set_cons_zero, List.set_cons_succ]
          rfl
        replace tx := tx.upto
        replace ty := ty.from_ hS3.size
        replace h5 := blk_below h5 hst
        replace h6 := blk_below h6 hst
        replace tx := tx.below hst
        have hS4 := hHeld
        refine PrintLast.norm_ (a' := PrintLast.putAll _ _) ?_ (hJ ⟨g5, g6, cs10, cs12⟩ W4 ⟨_, VF1, VL1, VF2, VL2, e10, e12, hne, l5, l6, h5, h6, tx, ty, hHeld⟩)
        rfl
    · skip
      refine PrintLast.value_ (w1 := W0.alloc (.cells zM 46)) (v := .pointer (some ⟨W0.heap.size, 0, none⟩)) (by rfl) rfl ?_ ?_
      · exact Fl.exec_alloc (t := 46) (zs := zM) (by rfl) zeroM0
      have hst := below_alloc (Below.refl W0.heap.size W0) (.cells zM 46)
      refine hK.out _ _ (below_step hHeld hst) (fun hHeld => ?_)
      clear hK K
      refine PrintLast.norm_ (a' := ?_) ?_ ?_
      rotate_left
      · show Act.put _ (some 6) _ = _
        simp only [Act.put, List.setIfInBounds_toArray, List.set_cons_zero, List.set_cons_succ]
        rfl
      have h6 := heap_alloc_new W0 (.cells zM 46)
      have l6 : wb.heap.size ≤ W0.heap.size := hS0.size
      generalize W0.alloc (.cells zM 46) = W1 at *
      obtain ⟨g6, hg6⟩ : ∃ g, g = W0.heap.size := ⟨_, rfl⟩
      rw [← hg6] at h6 l6 ⊢
      have hS1 := hHeld
      refine PrintLast.two_ (i := 1) (j := 4) (Ni := some 10) (Nj := some 5) #[true, true, true, false, false, true, false, false] #[true, false, true, false, true, true, false, false] rfl rfl rfl rfl (by kernel_rfl) (by decide) (by decide) (fun K hK => ?_) (fun K hK => ?_) 
      · skip
        refine PrintLast.goes_ Try.func18 (by kernel_rfl) rfl #[.agg (#[.string m.1, .int .i64 m.2.1, .slice A1 m.2.2.1.length c1, .slice L1 m.2.2.2.1.length d1, .slice I1 m.2.2.2.2.1.length e1, .slice T1 m.2.2.2.2.2.length f1] : Array Value)] (by rfl) rfl rfl (by simp only [List.map_toArray, List.map_cons, List.map_nil]; rfl) ?_
        refine (HT1.out W1 hHeld).mono ?_
        rintro e W2 ⟨cs10, VF1, VL1, rfl, e10, tx, hst⟩
        refine ⟨_, rfl, hK.out _ _ (below_step hHeld hst) (fun hHeld => ?_)⟩
        clear hK K
        refine PrintLast.norm_ (a' := ?_) ?_ ?_
        rotate_left
        · show Act.put _ (some 10) _ = _
          simp only [Act.put, List.setIfInBounds_toArray, List.set_cons_zero, List.set_cons_succ]
          rfl
        replace tx := tx.lower hS1.size
        replace h6 := blk_below h6 hst
        have hS2 := hHeld
        refine PrintLast.two_ (i := 3) (j := 4) (Ni := some 12) (Nj := some 5) #[true, true, true, true, false, true, false, false] #[true, true, true, false, true, true, false, false] rfl rfl rfl rfl (by kernel_rfl) (by decide) (by decide) (fun K hK => ?_) (fun K hK => ?_) 
        · skip
          refine PrintLast.goes_ Try.func18 (by kernel_rfl) rfl #[.agg (#[.string m.1, .int .i64 m.2.1, .slice A2 m.2.2.1.length c2, .slice L2 m.2.2.2.1.length d2, .slice I2 m.2.2.2.2.1.length e2, .slice T2 m.2.2.2.2.2.length f2] : Array Value)] (by rfl) rfl rfl (by simp only [List.map_toArray, List.map_cons, List.map_nil]; rfl) ?_
          refine (HT2.out W2 hHeld).mono ?_
          rintro e W3 ⟨cs12, VF2, VL2, rfl, e12, ty, hst⟩
          refine ⟨_, rfl, hK.out _ _ (below_step hHeld hst) (fun hHeld => ?_)⟩
          clear hK K
          refine PrintLast.norm_ (a' := ?_) ?_ ?_
          rotate_left
          · show Act.put _ (some 12) _ = _
            simp only [Act.put, List.setIfInBounds_toArray, List.set_cons_zero, List.set_cons_succ]
            rfl
          replace tx := tx.upto
          replace ty := ty.from_ hS2.size
          replace h6 := blk_below h6 hst
          replace tx := tx.below hst
          have hS3 := hHeld
          refine PrintLast.one_ (i := 4) (N := some 5) #[true, true, true, true, true, true, false, false] rfl rfl (by kernel_rfl) (by decide) (fun K hK => ?_)
          refine PrintLast.value_ (w1 := W3.alloc (.cells zM 46)) (v := .pointer (some ⟨W3.heap.size, 0, none⟩)) (by rfl) rfl ?_ ?_
          · exact Fl.exec_alloc (t := 46) (zs := zM) (by rfl) zeroM0
          have hst := below_alloc (Below.refl W3.heap.size W3) (.cells zM 46)
          refine hK.out _ _ (below_step hHeld hst) (fun hHeld => ?_)
          clear hK K
          refine PrintLast.norm_ (a' := ?_) ?_ ?_
          rotate_left
          · show Act.put _ (some 5) _ = _
            simp only [Act.put, List.setIfInBounds_toArray, List.set_cons_zero, List.set_cons_succ]
            rfl
          have h5 := heap_alloc_new W3 (.cells zM 46)
          have l5 : wb.heap.size ≤ W3.heap.size := hS3.size
          have hne : W3.heap.size ≠ g6 := by have := blk_lt h6; omega
          replace h6 := blk_below h6 hst
          replace tx := tx.below hst
          replace ty := ty.below hst
          generalize W3.alloc (.cells zM 46) = W4 at *
          obtain ⟨g5, hg5⟩ : ∃ g, g = W3.heap.size := ⟨_, rfl⟩
          rw [← hg5] at h5 l5 hne ⊢
          have hS4 := hHeld
          refine PrintLast.norm_ (a' := PrintLast.putAll _ _) ?_ (hJ ⟨g5, g6, cs10, cs12⟩ W4 ⟨_, VF1, VL1, VF2, VL2, e10, e12, hne, l5, l6, h5, h6, tx, ty, hHeld⟩)
          rfl
        · skip
          refine PrintLast.value_ (w1 := W2.alloc (.cells zM 46)) (v := .pointer (some ⟨W2.heap.size, 0, none⟩)) (by rfl) rfl ?_ ?_
          · exact Fl.exec_alloc (t := 46) (zs := zM) (by rfl) zeroM0
          have hst := below_alloc (Below.refl W2.heap.size W2) (.cells zM 46)
          refine hK.out _ _ (below_step hHeld hst) (fun hHeld => ?_)
          clear hK K
          refine PrintLast.norm_ (a' := ?_) ?_ ?_
          rotate_left
          · show Act.put _ (some 5) _ = _
            simp only [Act.put, List.setIfInBounds_toArray, List.set_cons_zero, List.set_cons_succ]
            rfl
          have h5 := heap_alloc_new W2 (.cells zM 46)
          have l5 : wb.heap.size ≤ W2.heap.size := hS2.size
          have hne : W2.heap.size ≠ g6 := by have := blk_lt h6; omega
          replace h6 := blk_below h6 hst
          replace tx := tx.below hst
          generalize W2.alloc (.cells zM 46) = W3 at *
          obtain ⟨g5, hg5⟩ : ∃ g, g = W2.heap.size := ⟨_, rfl⟩
          rw [← hg5] at h5 l5 hne ⊢
          have hS3 := hHeld
          refine PrintLast.one_ (i := 3) (N := some 12) #[true, true, true, true, true, true, false, false] rfl rfl (by kernel_rfl) (by decide) (fun K hK => ?_)
          refine PrintLast.goes_ Try.func18 (by kernel_rfl) rfl #[.agg (#[.string m.1, .int .i64 m.2.1, .slice A2 m.2.2.1.length c2, .slice L2 m.2.2.2.1.length d2, .slice I2 m.2.2.2.2.1.length e2, .slice T2 m.2.2.2.2.2.length f2] : Array Value)] (by rfl) rfl rfl (by simp only [List.map_toArray, List.map_cons, List.map_nil]; rfl) ?_
          refine (HT2.out W3 hHeld).mono ?_
          rintro e W4 ⟨cs12, VF2, VL2, rfl, e12, ty, hst⟩
          refine ⟨_, rfl, hK.out _ _ (below_step hHeld hst) (fun hHeld => ?_)⟩
          clear hK K
          refine PrintLast.norm_ (a' := ?_) ?_ ?_
          rotate_left
          · show Act.put _ (some 12) _ = _
            simp only [Act.put, List.setIfInBounds_toArray, List.set_cons_zero, List.set_cons_succ]
            rfl
          replace tx := tx.upto
          replace ty := ty.from_ hS3.size
          replace h5 := blk_below h5 hst
          replace h6 := blk_below h6 hst
          replace tx := tx.below hst
          have hS4 := hHeld
          refine PrintLast.norm_ (a' := PrintLast.putAll _ _) ?_ (hJ ⟨g5, g6, cs10, cs12⟩ W4 ⟨_, VF1, VL1, VF2, VL2, e10, e12, hne, l5, l6, h5, h6, tx, ty, hHeld⟩)
          rfl
      · skip
        refine PrintLast.value_ (w1 := W1.alloc (.cells zM 46)) (v := .pointer (some ⟨W1.heap.size, 0, none⟩)) (by rfl) rfl ?_ ?_
        · exact Fl.exec_alloc (t := 46) (zs := zM) (by rfl) zeroM0
        have hst := below_alloc (Below.refl W1.heap.size W1) (.cells zM 46)
        refine hK.out _ _ (below_step hHeld hst) (fun hHeld => ?_)
        clear hK K
        refine PrintLast.norm_ (a' := ?_) ?_ ?_
        rotate_left
        · show Act.put _ (some 5) _ = _
          simp only [Act.put, List.setIfInBounds_toArray, List.set_cons_zero, List.set_cons_succ]
          rfl
        have h5 := heap_alloc_new W1 (.cells zM 46)
        have l5 : wb.heap.size ≤ W1.heap.size := hS1.size
        have hne : W1.heap.size ≠ g6 := by have := blk_lt h6; omega
        replace h6 := blk_below h6 hst
        generalize W1.alloc (.cells zM 46) = W2 at *
        obtain ⟨g5, hg5⟩ : ∃ g, g = W1.heap.size := ⟨_, rfl⟩
        rw [← hg5] at h5 l5 hne ⊢
        have hS2 := hHeld
        refine PrintLast.one_ (i := 1) (N := some 10) #[true, true, true, false, true, true, false, false] rfl rfl (by kernel_rfl) (by decide) (fun K hK => ?_)
        refine PrintLast.goes_ Try.func18 (by kernel_rfl) rfl #[.agg (#[.string m.1, .int .i64 m.2.1, .slice A1 m.2.2.1.length c1, .slice L1 m.2.2.2.1.length d1, .slice I1 m.2.2.2.2.1.length e1, .slice T1 m.2.2.2.2.2.length f1] : Array Value)] (by rfl) rfl rfl (by simp only [List.map_toArray, List.map_cons, List.map_nil]; rfl) ?_
        refine (HT1.out W2 hHeld).mono ?_
        rintro e W3 ⟨cs10, VF1, VL1, rfl, e10, tx, hst⟩
        refine ⟨_, rfl, hK.out _ _ (below_step hHeld hst) (fun hHeld => ?_)⟩
        clear hK K
        refine PrintLast.norm_ (a' := ?_) ?_ ?_
        rotate_left
        · show Act.put _ (some 10) _ = _
          simp only [Act.put, List.setIfInBounds_toArray, List.set_cons_zero, List.set_cons_succ]
          rfl
        replace tx := tx.lower hS2.size
        replace h5 := blk_below h5 hst
        replace h6 := blk_below h6 hst
        have hS3 := hHeld
        refine PrintLast.one_ (i := 3) (N := some 12) #[true, true, true, true, true, true, false, false] rfl rfl (by kernel_rfl) (by decide) (fun K hK => ?_)
        refine PrintLast.goes_ Try.func18 (by kernel_rfl) rfl #[.agg (#[.string m.1, .int .i64 m.2.1, .slice A2 m.2.2.1.length c2, .slice L2 m.2.2.2.1.length d2, .slice I2 m.2.2.2.2.1.length e2, .slice T2 m.2.2.2.2.2.length f2] : Array Value)] (by rfl) rfl rfl (by simp only [List.map_toArray, List.map_cons, List.map_nil]; rfl) ?_
        refine (HT2.out W3 hHeld).mono ?_
        rintro e W4 ⟨cs12, VF2, VL2, rfl, e12, ty, hst⟩
        refine ⟨_, rfl, hK.out _ _ (below_step hHeld hst) (fun hHeld => ?_)⟩
        clear hK K
        refine PrintLast.norm_ (a' := ?_) ?_ ?_
        rotate_left
        · show Act.put _ (some 12) _ = _
          simp only [Act.put, List.setIfInBounds_toArray, List.set_cons_zero, List.set_cons_succ]
          rfl
        replace tx := tx.upto
        replace ty := ty.from_ hS3.size
        replace h5 := blk_below h5 hst
        replace h6 := blk_below h6 hst
        replace tx := tx.below hst
        have hS4 := hHeld
        refine PrintLast.norm_ (a' := PrintLast.putAll _ _) ?_ (hJ ⟨g5, g6, cs10, cs12⟩ W4 ⟨_, VF1, VL1, VF2, VL2, e10, e12, hne, l5, l6, h5, h6, tx, ty, hHeld⟩)
        rfl
  rintro ⟨g5, g6, cs10, cs12⟩ W ⟨hi, VF1, VL1, VF2, VL2, ⟨i1, j1, k1, o1, p1, q1, ec1⟩, ⟨i2, j2, k2, o2, p2, q2, ec2⟩, hne, l5, l6, h5, h6, tx, ty, hHeld⟩
  change cs10 = _ at ec1
  change cs12 = _ at ec2
  change g5 ≠ g6 at hne
  change wb.heap.size ≤ g5 at l5
  change wb.heap.size ≤ g6 at l6
  change W.heap[g5]? = _ at h5
  change W.heap[g6]? = _ at h6
  subst ec1 ec2
  obtain ⟨AF1, cF1, AL1, cL1, rfl, rfl⟩ := tx.slices
  obtain ⟨AF2, cF2, AL2, cL2, rfl, rfl⟩ := ty.slices
  refine PrintLast.norm_ (a' := ?_) ?_ ?_
  rotate_left
  · simp only [PrintLast.putAll, Act.put, List.setIfInBounds_toArray, List.set_cons_zero, List.set_cons_succ]
    rfl
  refine PrintLast.one_ (i := 6) (N := none) #[true, true, true, true, true, true, true, false] rfl rfl (by kernel_rfl) (by decide) (fun K hK => ?_)
  refine PrintLast.skip_ (w1 := W.setRow g5 #[.string m.1, .int .i64 m.2.1, .slice AF1 m.2.2.1.length cF1, .slice AL1 m.2.2.2.1.length cL1, .slice i1 j1 k1, .slice o1 p1 q1]) (by rfl) rfl ?_ ?_
  · exact Fl.exec_store_row (ty := 46) (x := .tmp 5) (y := .tmp 10) (g := g5) (cells := #[.string m.1, .int .i64 m.2.1, .slice AF1 m.2.2.1.length cF1, .slice AL1 m.2.2.2.1.length cL1, .slice i1 j1 k1, .slice o1 p1 q1]) (by rfl) (by rfl) (by rfl) h5 (by kernel_rfl) (by rfl) (six_one _ _ _ _ _ _ _ _ _ _ _ _ _ _)
  refine hK.out _ _ (below_setRowL hHeld l5 _) (fun hHeld => ?_)
  clear hK K
  replace tx := tx.setRow h5 #[.string m.1, .int .i64 m.2.1, .slice AF1 m.2.2.1.length cF1, .slice AL1 m.2.2.2.1.length cL1, .slice i1 j1 k1, .slice o1 p1 q1]
  replace ty := ty.setRow h5 #[.string m.1, .int .i64 m.2.1, .slice AF1 m.2.2.1.length cF1, .slice AL1 m.2.2.2.1.length cL1, .slice i1 j1 k1, .slice o1 p1 q1]
  replace h6 := (setRow_other W g5 g6 #[.string m.1, .int .i64 m.2.1, .slice AF1 m.2.2.1.length cF1, .slice AL1 m.2.2.2.1.length cL1, .slice i1 j1 k1, .slice o1 p1 q1] (by omega)).trans h6
  replace h5 := setRow_heap W g5 _ #[.string m.1, .int .i64 m.2.1, .slice AF1 m.2.2.1.length cF1, .slice AL1 m.2.2.2.1.length cL1, .slice i1 j1 k1, .slice o1 p1 q1] _ _ h5
  generalize W.setRow g5 #[.string m.1, .int .i64 m.2.1, .slice AF1 m.2.2.1.length cF1, .slice AL1 m.2.2.2.1.length cL1, .slice i1 j1 k1, .slice o1 p1 q1] = W at *
  refine PrintLast.one_ (i := 7) (N := none) #[true, true, true, true, true, true, true, true] rfl rfl (by kernel_rfl) (by decide) (fun K hK => ?_)
  refine PrintLast.skip_ (w1 := W.setRow g6 #[.string m.1, .int .i64 m.2.1, .slice AF2 m.2.2.1.length cF2, .slice AL2 m.2.2.2.1.length cL2, .slice i2 j2 k2, .slice o2 p2 q2]) (by rfl) rfl ?_ ?_
  · exact Fl.exec_store_row (ty := 46) (x := .tmp 6) (y := .tmp 12) (g := g6) (cells := #[.string m.1, .int .i64 m.2.1, .slice AF2 m.2.2.1.length cF2, .slice AL2 m.2.2.2.1.length cL2, .slice i2 j2 k2, .slice o2 p2 q2]) (by rfl) (by rfl) (by rfl) h6 (by kernel_rfl) (by rfl) (six_one _ _ _ _ _ _ _ _ _ _ _ _ _ _)
  refine hK.out _ _ (below_setRowL hHeld l6 _) (fun hHeld => ?_)
  clear hK K
  replace tx := tx.setRow h6 #[.string m.1, .int .i64 m.2.1, .slice AF2 m.2.2.1.length cF2, .slice AL2 m.2.2.2.1.length cL2, .slice i2 j2 k2, .slice o2 p2 q2]
  replace ty := ty.setRow h6 #[.string m.1, .int .i64 m.2.1, .slice AF2 m.2.2.1.length cF2, .slice AL2 m.2.2.2.1.length cL2, .slice i2 j2 k2, .slice o2 p2 q2]
  replace h5 := (setRow_other W g6 g5 #[.string m.1, .int .i64 m.2.1, .slice AF2 m.2.2.1.length cF2, .slice AL2 m.2.2.2.1.length cL2, .slice i2 j2 k2, .slice o2 p2 q2] (by omega)).trans h5
  replace h6 := setRow_heap W g6 _ #[.string m.1, .int .i64 m.2.1, .slice AF2 m.2.2.1.length cF2, .slice AL2 m.2.2.2.1.length cL2, .slice i2 j2 k2, .slice o2 p2 q2] _ _ h6
  generalize W.setRow g6 #[.string m.1, .int .i64 m.2.1, .slice AF2 m.2.2.1.length cF2, .slice AL2 m.2.2.2.1.length cL2, .slice i2 j2 k2, .slice o2 p2 q2] = W at *
  refine PrintLast.done_ (by kernel_rfl) ?_
  have x1 : wb.heap.size ≤ W.heap.size := hHeld.size
  have HX1' := Aside0.mk ((hHeld.block w.heap.size (blk_lt HX1.out)).trans HX1.out)
  have HX2' := Aside0.mk ((hHeld.block (w.heap.size + 1) (blk_lt HX2.out)).trans HX2.out)
  have HB := Aside0.mk (below_step HWB.out hHeld)
  have m5 : w.heap.size + 1 < g5 := by have := blk_lt HX2.out; omega
  have m6 : w.heap.size + 1 < g6 := by have := blk_lt HX2.out; omega
  clear hHeld x1
  have a0 : W.cell? ⟨g5, 4, none⟩ = some (.slice i1 j1 k1) := Go.Joins.cell_of_block h5 4
  have a1 : W.frozen? ⟨g5, 4, none⟩ = false := blk_frozen h5 4
  replace tx := tx.set h5 4 (.slice none 0 0)
  replace ty := ty.set h5 4 (.slice none 0 0)
  replace h6 := blk_far h6 (p := ⟨g5, 4, none⟩) (Ne.symm hne) (.slice none 0 0)
  replace h5 := blk_set h5 4 (.slice none 0 0)
  have a2 : (W.setCell ⟨g5, 4, none⟩ (.slice none 0 0)).cell? ⟨g5, 5, none⟩ = some (.slice o1 p1 q1) := Go.Joins.cell_of_block h5 5
  have a3 : (W.setCell ⟨g5, 4, none⟩ (.slice none 0 0)).frozen? ⟨g5, 5, none⟩ = false := blk_frozen h5 5
  replace tx := tx.set h5 5 (.slice none 0 0)
  replace ty := ty.set h5 5 (.slice none 0 0)
  replace h6 := blk_far h6 (p := ⟨g5, 5, none⟩) (Ne.symm hne) (.slice none 0 0)
  replace h5 := blk_set h5 5 (.slice none 0 0)
  have a4 : ((W.setCell ⟨g5, 4, none⟩ (.slice none 0 0)).setCell ⟨g5, 5, none⟩ (.slice none 0 0)).cell? ⟨g6, 4, none⟩ = some (.slice i2 j2 k2) := Go.Joins.cell_of_block h6 4
  have a5 : ((W.setCell ⟨g5, 4, none⟩ (.slice none 0 0)).setCell ⟨g5, 5, none⟩ (.slice none 0 0)).frozen? ⟨g6, 4, none⟩ = false := blk_frozen h6 4
  replace tx := tx.set h6 4 (.slice none 0 0)
  replace ty := ty.set h6 4 (.slice none 0 0)
  replace h5 := blk_far h5 (p := ⟨g6, 4, none⟩) hne (.slice none 0 0)
  replace h6 := blk_set h6 4 (.slice none 0 0)
  have a6 : (((W.setCell ⟨g5, 4, none⟩ (.slice none 0 0)).setCell ⟨g5, 5, none⟩ (.slice none 0 0)).setCell ⟨g6, 4, none⟩ (.slice none 0 0)).cell? ⟨g6, 5, none⟩ = some (.slice o2 p2 q2) := Go.Joins.cell_of_block h6 5
  have a7 : (((W.setCell ⟨g5, 4, none⟩ (.slice none 0 0)).setCell ⟨g5, 5, none⟩ (.slice none 0 0)).setCell ⟨g6, 4, none⟩ (.slice none 0 0)).frozen? ⟨g6, 5, none⟩ = false := blk_frozen h6 5
  replace tx := tx.set h6 5 (.slice none 0 0)
  replace ty := ty.set h6 5 (.slice none 0 0)
  replace h5 : ((((W.setCell ⟨g5, 4, none⟩ (.slice none 0 0)).setCell ⟨g5, 5, none⟩ (.slice none 0 0)).setCell ⟨g6, 4, none⟩ (.slice none 0 0)).setCell ⟨g6, 5, none⟩ (.slice none 0 0)).heap[g5]? = some (.cells #[.string m.1, .int .i64 m.2.1, .slice AF1 m.2.2.1.length cF1, .slice AL1 m.2.2.2.1.length cL1, .slice none 0 0, .slice none 0 0] 46 (0, 0)) := blk_far h5 (p := ⟨g6, 5, none⟩) hne (.slice none 0 0)
  replace h6 : ((((W.setCell ⟨g5, 4, none⟩ (.slice none 0 0)).setCell ⟨g5, 5, none⟩ (.slice none 0 0)).setCell ⟨g6, 4, none⟩ (.slice none 0 0)).setCell ⟨g6, 5, none⟩ (.slice none 0 0)).heap[g6]? = some (.cells #[.string m.1, .int .i64 m.2.1, .slice AF2 m.2.2.1.length cF2, .slice AL2 m.2.2.2.1.length cL2, .slice none 0 0, .slice none 0 0] 46 (0, 0)) := blk_set h6 5 (.slice none 0 0)
  have HB4 : Aside0 (Below w.heap.size w ((((W.setCell ⟨g5, 4, none⟩ (.slice none 0 0)).setCell ⟨g5, 5, none⟩ (.slice none 0 0)).setCell ⟨g6, 4, none⟩ (.slice none 0 0)).setCell ⟨g6, 5, none⟩ (.slice none 0 0))) := ⟨below_set (below_set (below_set (below_set HB.out (by omega)) (by omega)) (by omega)) (by omega)⟩
  have hx1 := blk_far (p := ⟨g6, 5, none⟩) (blk_far (p := ⟨g6, 4, none⟩) (blk_far (p := ⟨g5, 5, none⟩) (blk_far (p := ⟨g5, 4, none⟩) HX1'.out (by show w.heap.size ≠ g5; omega) (.slice none 0 0)) (by show w.heap.size ≠ g5; omega) (.slice none 0 0)) (by show w.heap.size ≠ g6; omega) (.slice none 0 0)) (by show w.heap.size ≠ g6; omega) (.slice none 0 0)
  have hx2 := blk_far (p := ⟨g6, 5, none⟩) (blk_far (p := ⟨g6, 4, none⟩) (blk_far (p := ⟨g5, 5, none⟩) (blk_far (p := ⟨g5, 4, none⟩) HX2'.out (by show w.heap.size + 1 ≠ g5; omega) (.slice none 0 0)) (by show w.heap.size + 1 ≠ g5; omega) (.slice none 0 0)) (by show w.heap.size + 1 ≠ g6; omega) (.slice none 0 0)) (by show w.heap.size + 1 ≠ g6; omega) (.slice none 0 0)
  go_upto_region 3 with fail
  clear a0 a1 a2 a3 a4 a5 a6 a7
  clear HB HX1' HX2'
  generalize ((((W.setCell ⟨g5, 4, none⟩ (.slice none 0 0)).setCell ⟨g5, 5, none⟩ (.slice none 0 0)).setCell ⟨g6, 4, none⟩ (.slice none 0 0)).setCell ⟨g6, 5, none⟩ (.slice none 0 0)) = W4 at *
  have y14 : W4.cell? ⟨w.heap.size, 4, none⟩ = some (.slice I1 m.2.2.2.2.1.length e1) := Go.Joins.cell_of_block hx1 4
  have y15 : W4.cell? ⟨w.heap.size, 5, none⟩ = some (.slice T1 m.2.2.2.2.2.length f1) := Go.Joins.cell_of_block hx1 5
  have y24 : W4.cell? ⟨w.heap.size + 1, 4, none⟩ = some (.slice I2 m.2.2.2.2.1.length e2) := Go.Joins.cell_of_block hx2 4
  have y25 : W4.cell? ⟨w.heap.size + 1, 5, none⟩ = some (.slice T2 m.2.2.2.2.2.length f2) := Go.Joins.cell_of_block hx2 5
  have N1 : (m.2.2.2.2.1.length == m.2.2.2.2.1.length) = true := by simp
  have N2 : (m.2.2.2.2.1.length != m.2.2.2.2.1.length) = false := by simp
  have N3 : (m.2.2.2.2.2.length == m.2.2.2.2.2.length) = true := by simp
  have N4 : (m.2.2.2.2.2.length != m.2.2.2.2.2.length) = false := by simp
  go_wp2
  go_loopw [7] (fun i wz => ∃ k : Nat, k ≤ m.2.2.1.length ∧ i = .int .i64 k ∧ Aside0 (wz.heap[g5]? = some (.cells #[.string m.1, .int .i64 m.2.1, .slice AF1 m.2.2.1.length cF1, .slice AL1 m.2.2.2.1.length cL1, .slice none 0 0, .slice none 0 0] 46 (0, 0))) ∧ Aside0 (wz.heap[g6]? = some (.cells #[.string m.1, .int .i64 m.2.1, .slice AF2 m.2.2.1.length cF2, .slice AL2 m.2.2.2.1.length cL2, .slice none 0 0, .slice none 0 0] 46 (0, 0))) ∧ Aside0 (TX wb.heap.size (fun j => j < hi) (brs k m.2.2.1) m.2.2.2.1 (.slice AF1 m.2.2.1.length cF1) (.slice AL1 m.2.2.2.1.length cL1) wz) ∧ Aside0 (TX wb.heap.size (fun j => hi ≤ j) (brs 0 m.2.2.1) m.2.2.2.1 (.slice AF2 m.2.2.1.length cF2) (.slice AL2 m.2.2.2.1.length cL2) wz) ∧ Aside0 (Below w.heap.size w wz)) (fun i _ => m.2.2.1.length - (intOf i).toNat)
  case atStart => exact ⟨0, by omega, rfl, ⟨h5⟩, ⟨h6⟩, ⟨tx⟩, ⟨ty⟩, HB4⟩
  case round =>
    clear y14 y15 y24 y25 N1 N2 N3 N4 hx1 hx2 h5 h6 tx ty HB4
    obtain ⟨k, hk, rfl, H5, H6, TXX, TYY, HB4⟩ := hrel
    have hbf : wr.cell? ⟨g5, 2, none⟩ = some (.slice AF1 m.2.2.1.length cF1) := Go.Joins.cell_of_block H5.out 2
    by_cases hlt : k < m.2.2.1.length
    · obtain ⟨g, cur, eA, hg, hgo, hsz, hgb⟩ := TXX.out.opened (by rw [brs_len]; omega)
      rw [brs_len] at hsz
      obtain ⟨ad, had⟩ : ∃ ad : Addr, ad = ⟨g, 0, none⟩ := ⟨_, rfl⟩
      rw [← had] at eA
      rw [eA] at hbf
      have eW : (ad.add (k * 35)).block = g ∧ (ad.add (k * 35)).off + 34 = k * 35 + 34 := by rw [had, Go.WideShapes.add_plain]; exact ⟨rfl, by show 0 + k * 35 + 34 = _; omega⟩
      have hs1 : (⟨(ad.add (k * 35)).block, (ad.add (k * 35)).off + 34, none⟩ : Addr) = ⟨g, k * 35 + 34, none⟩ := by rw [eW.1, eW.2]
      have hlt2 : k * 35 + 34 < cur.size := by omega
      have a1 : ∃ u, wr.cell? ⟨(ad.add (k * 35)).block, (ad.add (k * 35)).off + 34, none⟩ = some u := ⟨cur[k * 35 + 34], by rw [hs1, Go.Joins.cell_of_block hg]; exact Array.getElem?_eq_getElem hlt2⟩
      obtain ⟨u, a1⟩ := a1
      have a2 : wr.frozen? ⟨(ad.add (k * 35)).block, (ad.add (k * 35)).off + 34, none⟩ = false := by rw [hs1]; exact blk_frozen hg _
      have HS1 := Lib.hid hs1
      have HE := Lib.hid (eA.trans (congrArg some had))
      have HG := Aside0.mk hg
      have hgw : w.heap.size ≤ g := Nat.le_trans HWB.out.size hgb
      have n5 : g5 ≠ g := blk_ne H5.out hg (by decide)
      have n6 : g6 ≠ g := blk_ne H6.out hg (by decide)
      clear hs1 eW had eA hg hsz
      go_wp2
      go_roundw
      case rel =>
        refine ⟨k + 1, by omega, by go_num, ?_⟩
        rw [HS1.out]
        exact ⟨⟨blk_far H5.out n5 _⟩, ⟨blk_far H6.out n6 _⟩, ⟨by have h := TXX.out; rw [HE.out] at h ⊢; exact h.bare hlt⟩, ⟨TYY.out.far (fun j hj => by show j ≠ g; omega) _⟩, ⟨below_set HB4.out hgw⟩⟩
      case measure => simp [intOf]; omega
    · skip
      have ek : k = m.2.2.1.length := by omega
      subst ek
      go_wp2
      go_loopw [8] (fun i wz => ∃ k : Nat, k ≤ m.2.2.1.length ∧ i = .int .i64 k ∧ Aside0 (wz.heap[g5]? = some (.cells #[.string m.1, .int .i64 m.2.1, .slice AF1 m.2.2.1.length cF1, .slice AL1 m.2.2.2.1.length cL1, .slice none 0 0, .slice none 0 0] 46 (0, 0))) ∧ Aside0 (wz.heap[g6]? = some (.cells #[.string m.1, .int .i64 m.2.1, .slice AF2 m.2.2.1.length cF2, .slice AL2 m.2.2.2.1.length cL2, .slice none 0 0, .slice none 0 0] 46 (0, 0))) ∧ Aside0 (TX wb.heap.size (fun j => j < hi) (brs m.2.2.1.length m.2.2.1) m.2.2.2.1 (.slice AF1 m.2.2.1.length cF1) (.slice AL1 m.2.2.2.1.length cL1) wz) ∧ Aside0 (TX wb.heap.size (fun j => hi ≤ j) (brs k m.2.2.1) m.2.2.2.1 (.slice AF2 m.2.2.1.length cF2) (.slice AL2 m.2.2.2.1.length cL2) wz) ∧ Aside0 (Below w.heap.size w wz)) (fun i _ => m.2.2.1.length - (intOf i).toNat)
      case atStart => exact ⟨0, by omega, rfl, H5, H6, TXX, TYY, HB4⟩
      case round =>
        clear hbf H5 H6 TXX TYY HB4
        obtain ⟨k, hk, rfl, H5, H6, TXX, TYY, HB4⟩ := hrel
        have hbf : wr.cell? ⟨g6, 2, none⟩ = some (.slice AF2 m.2.2.1.length cF2) := Go.Joins.cell_of_block H6.out 2
        by_cases hlt : k < m.2.2.1.length
        · obtain ⟨g, cur, eA, hg, hgo, hsz, hgb⟩ := TYY.out.opened (by rw [brs_len]; omega)
          rw [brs_len] at hsz
          obtain ⟨ad, had⟩ : ∃ ad : Addr, ad = ⟨g, 0, none⟩ := ⟨_, rfl⟩
          rw [← had] at eA
          rw [eA] at hbf
          have eW : (ad.add (k * 35)).block = g ∧ (ad.add (k * 35)).off + 34 = k * 35 + 34 := by rw [had, Go.WideShapes.add_plain]; exact ⟨rfl, by show 0 + k * 35 + 34 = _; omega⟩
          have hs1 : (⟨(ad.add (k * 35)).block, (ad.add (k * 35)).off + 34, none⟩ : Addr) = ⟨g, k * 35 + 34, none⟩ := by rw [eW.1, eW.2]
          have hlt2 : k * 35 + 34 < cur.size := by omega
          have a1 : ∃ u, wr.cell? ⟨(ad.add (k * 35)).block, (ad.add (k * 35)).off + 34, none⟩ = some u := ⟨cur[k * 35 + 34], by rw [hs1, Go.Joins.cell_of_block hg]; exact Array.getElem?_eq_getElem hlt2⟩
          obtain ⟨u, a1⟩ := a1
          have a2 : wr.frozen? ⟨(ad.add (k * 35)).block, (ad.add (k * 35)).off + 34, none⟩ = false := by rw [hs1]; exact blk_frozen hg _
          have HS1 := Lib.hid hs1
          have HE := Lib.hid (eA.trans (congrArg some had))
          have HG := Aside0.mk hg
          have hgw : w.heap.size ≤ g := Nat.le_trans HWB.out.size hgb
          have n5 : g5 ≠ g := blk_ne H5.out hg (by decide)
          have n6 : g6 ≠ g := blk_ne H6.out hg (by decide)
          clear hs1 eW had eA hg hsz
          go_wp2
          go_roundw
          case rel =>
            refine ⟨k + 1, by omega, by go_num, ?_⟩
            rw [HS1.out]
            exact ⟨⟨blk_far H5.out n5 _⟩, ⟨blk_far H6.out n6 _⟩, ⟨TXX.out.far (fun j hj => by show j ≠ g; omega) _⟩, ⟨by have h := TYY.out; rw [HE.out] at h ⊢; exact h.bare hlt⟩, ⟨below_set HB4.out hgw⟩⟩
          case measure => simp [intOf]; omega
        · skip
          have ek : k = m.2.2.1.length := by omega
          subst ek
          have t1 := TXX.out
          have t2 := TYY.out
          rw [brs_all] at t1 t2
          have K1 := Aside0.mk t1.read
          have K2 := Aside0.mk t2.read
          clear t1 t2
          have z5 := Lib.hid (fun j u (hj : ([.string m.1, .int .i64 m.2.1, .slice AF1 m.2.2.1.length cF1, .slice AL1 m.2.2.2.1.length cL1, .slice none 0 0, .slice none 0 0] : List Value)[j]? = some u) => (show wr.cell? ((⟨g5, 0, none⟩ : Addr).add j) = some u by rw [Go.WideShapes.add_plain, Go.Joins.cell_of_block H5.out, Nat.zero_add, List.getElem?_toArray]; exact hj))
          have z6 := Lib.hid (fun j u (hj : ([.string m.1, .int .i64 m.2.1, .slice AF2 m.2.2.1.length cF2, .slice AL2 m.2.2.2.1.length cL2, .slice none 0 0, .slice none 0 0] : List Value)[j]? = some u) => (show wr.cell? ((⟨g6, 0, none⟩ : Addr).add j) = some u by rw [Go.WideShapes.add_plain, Go.Joins.cell_of_block H6.out, Nat.zero_add, List.getElem?_toArray]; exact hj))
          have HMS := Lib.hid (metaSame_any _ _ _ wr K1.out K2.out (GMeta_bare hG) ⟨fun f hf => bare_mem f hf, rfl, rfl⟩)
          go_wp2_with (first | ((with_reducible refine Fl.wpList_load rfl 46 (.tmp 5) rfl (⟨g5, 0, none⟩) ?lx ([.string m.1, .int .i64 m.2.1, .slice AF1 m.2.2.1.length cF1, .slice AL1 m.2.2.2.1.length cL1, .slice none 0 0, .slice none 0 0]) _ ?lc Try.underlying46 rfl ?li ?_); (case lx => rfl); (case lc => exact z5.out); (case li => exact (by kernel_rfl))) | ((with_reducible refine Fl.wpList_load rfl 46 (.tmp 6) rfl (⟨g6, 0, none⟩) ?lx ([.string m.1, .int .i64 m.2.1, .slice AF2 m.2.2.1.length cF2, .slice AL2 m.2.2.2.1.length cL2, .slice none 0 0, .slice none 0 0]) _ ?lc Try.underlying46 rfl ?li ?_); (case lx => rfl); (case lc => exact z6.out); (case li => exact (by kernel_rfl))))
          go_at_call 58
          refine HMS.out.mono ?_
          rintro e w9 ⟨rfl, hb9⟩
          go_wp2
          go_ret
          exact ⟨rfl, below_step HB4.out hb9⟩
end Mt
end Go.Proofs.Ytjeeakhgjcbhaaa
set_option linter.unusedVariables false
set_option linter.unusedSimpArgs false
namespace Go.Proofs.Ytjeeakhgjcbhaaa
open Go.RowKit Go.Proofs.YtjeeakhgjcbhaaaW.PrintWords
namespace Far
open Wd Vl
/-- Only block g, and what is new, may be another. -/
structure Fr (g : Nat) (w w' : World) : Prop where
  os : w'.os = w.os
  tape : w'.tape = w.tape
  output : w'.output = w.output
  size : w.heap.size ≤ w'.heap.size
  block : ∀ k, k < w.heap.size → k ≠ g → w'.heap[k]? = w.heap[k]?
theorem Fr.refl (g : Nat) (w : World) : Fr g w w := ⟨rfl, rfl, rfl, Nat.le_refl _, fun _ _ _ => rfl⟩
theorem Fr.trans {g : Nat} {a b c : World} (h : Fr g a b) (k : Fr g b c) : Fr g a c :=
  ⟨k.os.trans h.os, k.tape.trans h.tape, k.output.trans h.output, Nat.le_trans h.size k.size, fun i hi hg => (k.block i (Nat.lt_of_lt_of_le hi h.size) hg).trans (h.block i hi hg)⟩
theorem Fr.of_below {g : Nat} {w w' : World} (h : Below w.heap.size w w') : Fr g w w' := ⟨h.os, h.tape, h.output, h.size, fun k hk _ => h.block k hk⟩
theorem Fr.set {g : Nat} {w w' : World} (h : Fr g w w') (j : Nat) (u : Value) : Fr g w (w'.setCell ⟨g, j, none⟩ u) where
  os := h.os
  tape := h.tape
  output := h.output
  size := by rw [World.size_setCell]; exact h.size
  block := fun k hk hg => (Below.heap_setCell w' ⟨g, j, none⟩ u k hg).trans (h.block k hk hg)
theorem Fr.below {g B : Nat} {W0 w w' : World} (hb : Below B W0 w) (hB : B ≤ W0.heap.size) (hg : B ≤ g) (h : Fr g w w') : Below B W0 w' :=
  ⟨h.os.trans hb.os, h.tape.trans hb.tape, h.output.trans hb.output, Nat.le_trans hb.size h.size, fun k hk => (h.block k (Nat.lt_of_lt_of_le (Nat.lt_of_lt_of_le hk hB) hb.size) (by omega)).trans (hb.block k hk)⟩
/-- The count lies in block g. -/
def CN (g : Nat) (w : World) : Prop := ∃ n : Int, w.heap[g]? = some (.cells #[.int .i64 n] 79 (0, 0))
theorem CN.lt {g : Nat} {w : World} (h : CN g w) : g < w.heap.size := by
  obtain ⟨n, h⟩ := h
  exact Nat.lt_of_not_le fun hge => by rw [Array.getElem?_eq_none hge] at h; cases h
theorem CN.below {g : Nat} {w w' : World} (h : CN g w) (hb : Below w.heap.size w w') : CN g w' := by
  have hlt := h.lt
  obtain ⟨n, h⟩ := h
  exact ⟨n, (hb.block g hlt).trans h⟩
def FarR (g : Nat) (w : World) (e : Ending) (w' : World) : Prop := (∃ b, e = .returned (.bool b)) ∧ CN g w' ∧ Fr g w w'
set_option maxRecDepth 100000 in
theorem add_any (g : Nat) (a : Int) (w : World) (hc : CN g w) : Calls Try.prog 40 #[.pointer (some ⟨g, 0, none⟩), .int .i64 a] w (FarR g w) := by
  obtain ⟨n, hn⟩ := hc
  have hx : w.cell? ⟨g, 0, none⟩ = some (.int .i64 n) := by rw [Go.Joins.cell_of_block hn]; rfl
  have hf : w.frozen? ⟨g, 0, none⟩ = false := Go.Joins.unfrozen_of_block hn 0
  have HN := Lib.hid hn
  clear hn
  go_enter Try.func40, Try.ntmps40
  go_wp2
  go_ret
  exact ⟨⟨_, rfl⟩, ⟨_, Go.Joins.block_setCell HN.out _⟩, (Fr.refl _ _).set _ _⟩
/-- What is read lies in W0, below the count. -/
def VOk (g L : Nat) : Prop := ∀ (W0 w : World) (v : Val) (cs : List Value), KV.K W0 v cs → Below W0.heap.size W0 w → W0.heap.size ≤ g → CN g w →
  Calls Try.prog 74 #[.pointer (some ⟨g, 0, none⟩), .agg cs.toArray, .int .i64 (L : Nat)] w (FarR g w)
def POk (g L : Nat) : Prop := ∀ (W0 w : World) (ds : List (ByteArray × Val)) (A : Option Addr) (c : Nat), KPr.C W0 A ds.length ds → Below W0.heap.size W0 w → W0.heap.size ≤ g → CN g w →
  Calls Try.prog 42 #[.pointer (some ⟨g, 0, none⟩), .slice A ds.length c, .int .i64 (L : Nat)] w (FarR g w)
theorem info_val {cs : List Value} (h : cs.length = 5) : (Try.prog.info? 124).map (·.size) = some cs.length := by rw [h]; kernel_rfl
set_option maxHeartbeats 1000000 in
set_option maxRecDepth 100000 in
theorem pairs_of (g L : Nat) (hv : VOk g L) : POk g L := by
  intro W0 w ds A c hK hb hg hc
  have hlen : ds.length ≤ 9223372036854775807 := hK.2.1
  have HK := Aside0.mk hK
  have HB0 := Aside0.mk hb
  have HC0 := Aside0.mk hc
  have HV := Lib.hid hv
  have HG := Lib.hid hg
  clear hK hb hv hg hc
  go_enter Try.func42, Try.ntmps42
  go_wp2
  go_loopw [7] (fun i wr => ∃ k : Nat, k ≤ ds.length ∧ i = .int .i64 k ∧ Aside0 (CN g wr) ∧ Aside0 (Fr g w wr)) (fun i _ => ds.length - (intOf i).toNat)
  case atStart => exact ⟨0, by omega, rfl, HC0, ⟨Fr.refl _ _⟩⟩
  case round =>
    obtain ⟨k, hk, rfl, HC, HF⟩ := hrel
    have HB := Aside0.mk (HF.out.below HB0.out (Nat.le_refl _) HG.out)
    by_cases hlt : k < ds.length
    · obtain ⟨ad, cs, e0, hl5, hs, hv, hcs⟩ := at_pair HK.out k hlt
      subst e0
      have hs1 : wr.cell? (ad.add (k * 6)) = some (.string (ds.getD k (ByteArray.empty, zeroV)).1) := cell_stay HB.out hs
      have HX : Hid (∀ w1, Aside0 (Below W0.heap.size W0 w1) → ∀ j u, cs[j]? = some u → w1.cell? ((⟨(ad.add (k * 6)).block, (ad.add (k * 6)).off + 1, none⟩ : Addr).add j) = some u) := Lib.hid fun w1 h j u hj => by
        rw [Go.WideShapes.add_plain, Nat.add_assoc]
        exact cell_stay h.out (Fl.fcell (1 + j) (by omega) (hcs j u hj))
      have HI := Lib.hid (info_val hl5)
      have HVV : Hid (∀ w1, Aside0 (Below W0.heap.size W0 w1) → Aside0 (CN g w1) → Calls Try.prog 74 #[.pointer (some ⟨g, 0, none⟩), .agg cs.toArray, .int .i64 (L : Nat)] w1 (FarR g w1)) := Lib.hid fun w1 h1 h2 => HV.out W0 w1 _ cs hv h1.out HG.out h2.out
      clear hs hv hcs hl5
      generalize (ds.getD k (ByteArray.empty, zeroV)).1 = s at *
      go_wp2_with fail
      go_at_call 40
      refine (add_any g _ _ HC.out).mono ?_
      rintro e w1 ⟨⟨b, rfl⟩, hc1, hf1⟩
      have HC1 := Aside0.mk hc1
      have HF1 := Aside0.mk (HF.out.trans hf1)
      have HB1 := Aside0.mk (HF1.out.below HB0.out (Nat.le_refl _) HG.out)
      clear hc1 hf1 HC HF
      cases b with
      | true =>
        go_wp2
        go_ret
        exact ⟨⟨_, rfl⟩, HC1.out, HF1.out⟩
      | false =>
        go_wp2_with (((with_reducible refine Fl.wpList_load rfl 124 (.tmp 29) rfl ((⟨(ad.add (k * 6)).block, (ad.add (k * 6)).off + 1, none⟩ : Addr)) ?lx (cs) _ ?lc Try.underlying124 rfl ?li ?_); (case lx => rfl); (case lc => exact HX.out _ HB1); (case li => exact HI.out)))
        go_at_call 74
        refine (HVV.out _ HB1 HC1).mono ?_
        rintro e w2 ⟨⟨b, rfl⟩, hc2, hf2⟩
        have HC2 := Aside0.mk hc2
        have HF2 := Aside0.mk (HF1.out.trans hf2)
        clear hc2 hf2 HC1 HF1 HVV
        cases b with
        | true =>
          go_wp2
          go_ret
          exact ⟨⟨_, rfl⟩, HC2.out, HF2.out⟩
        | false =>
          go_wp2
          go_roundw
          case rel => exact ⟨k + 1, by omega, by go_num, HC2, HF2⟩
          case measure => simp [intOf]; omega
    · go_wp2
      go_ret
      exact ⟨⟨_, rfl⟩, HC.out, HF.out⟩
set_option maxHeartbeats 2000000 in
set_option maxRecDepth 100000 in
theorem value_of (g L : Nat) (hL : L ≤ 65536) (hv : VOk g L) (hp : POk g L) : VOk g (L + 1) := by
  intro W0 w v cs hK hb hg hc
  obtain ⟨A, c, A', c', rfl, hc1, hc2, hl, hd⟩ := KV_open hK
  have hlen : v.list.length ≤ 9223372036854775807 := hl.2.1
  have HL := Aside0.mk hl
  have HB0 := Aside0.mk hb
  have HC0 := Aside0.mk hc
  have HV := Lib.hid hv
  have HG := Lib.hid hg
  have hgl := hc.lt
  have HGL := Lib.hid hgl
  have HP : Hid (∀ w1, Aside0 (Below W0.heap.size W0 w1) → Aside0 (CN g w1) → Calls Try.prog 42 #[.pointer (some ⟨g, 0, none⟩), .slice A' v.dict.length c', .int .i64 (L : Nat)] w1 (FarR g w1)) := Lib.hid fun w1 h1 h2 => hp W0 w1 v.dict A' c' hd h1.out hg h2.out
  clear hK hb hv hg hc hl hd hp hc1 hc2
  generalize v.kind = vk at *
  generalize v.int = vi at *
  generalize v.str = vs at *
  generalize v.list = xs at *
  generalize v.dict.length = dn at *
  clear v
  go_enter Try.func74, Try.ntmps74
  go_wp2_with fail
  go_at_call 40
  refine (add_any g _ _ (HC0.out.below (below_alloc (Below.refl _ _) _))).mono ?_
  rintro e w1 ⟨⟨b, rfl⟩, hc1, hf1⟩
  have HC1 := Aside0.mk hc1
  have HF1 := Aside0.mk ((Fr.of_below (below_alloc (Below.refl _ _) _)).trans hf1)
  have HX1 : Aside0 (w1.heap[w.heap.size]? = some (.cells #[.int .i64 vk, .int .i64 vi, .string vs, .slice A xs.length c, .slice A' dn c'] 124 (0, 0))) := ⟨(hf1.block w.heap.size (by rw [World.size_alloc]; omega) (by have := HGL.out; omega)).trans (heap_alloc_new w _)⟩
  clear hc1 hf1 HC0
  have T0 : (((L : Int) + 1) == 0) = false := by rw [beq_eq_false_iff_ne]; omega
  cases b with
  | true =>
    go_wp2
    go_ret
    exact ⟨⟨_, rfl⟩, HC1.out, HF1.out⟩
  | false =>
    go_wp2
    go_loopw [8] (fun i wr => ∃ k : Nat, k ≤ xs.length ∧ i = .int .i64 k ∧ Aside0 (CN g wr) ∧ Aside0 (Fr g w wr) ∧ Aside0 (wr.heap[w.heap.size]? = some (.cells #[.int .i64 vk, .int .i64 vi, .string vs, .slice A xs.length c, .slice A' dn c'] 124 (0, 0)))) (fun i _ => xs.length - (intOf i).toNat)
    case atStart => exact ⟨0, by omega, rfl, HC1, HF1, HX1⟩
    case round =>
      clear HC1 HF1 HX1
      obtain ⟨k, hk, rfl, HC, HF, HX⟩ := hrel
      have HB := Aside0.mk (HF.out.below HB0.out (Nat.le_refl _) HG.out)
      have hx3 : wr.cell? ⟨w.heap.size, 3, none⟩ = some (.slice A xs.length c) := by rw [Go.Joins.cell_of_block HX.out]; rfl
      have hx4 : wr.cell? ⟨w.heap.size, 4, none⟩ = some (.slice A' dn c') := by rw [Go.Joins.cell_of_block HX.out]; rfl
      by_cases hlt : k < xs.length
      · obtain ⟨ad, cs, e0, hl5, hv, hcs⟩ := at_val HL.out k hlt
        subst e0
        have HY : Hid (∀ j u, cs[j]? = some u → wr.cell? ((ad.add (k * 5)).add j) = some u) := Lib.hid fun j u hj => by
          rw [Go.Deep.add_add]
          exact cell_stay HB.out (hcs j u hj)
        have HI := Lib.hid (info_val hl5)
        have HVV : Hid (∀ w1, Aside0 (Below W0.heap.size W0 w1) → Aside0 (CN g w1) → Calls Try.prog 74 #[.pointer (some ⟨g, 0, none⟩), .agg cs.toArray, .int .i64 (L : Nat)] w1 (FarR g w1)) := Lib.hid fun w1 h1 h2 => HV.out W0 w1 _ cs hv h1.out HG.out h2.out
        clear hv hcs hl5
        go_wp2_with (((with_reducible refine Fl.wpList_load rfl 124 (.tmp 31) rfl (ad.add (k * 5)) ?lx (cs) _ ?lc Try.underlying124 rfl ?li ?_); (case lx => rfl); (case lc => exact HY.out); (case li => exact HI.out)))
        go_at_call 74
        refine (HVV.out _ HB HC).mono ?_
        rintro e w2 ⟨⟨b, rfl⟩, hc2, hf2⟩
        have HC2 := Aside0.mk hc2
        have HF2 := Aside0.mk (HF.out.trans hf2)
        have HX2 : Aside0 (w2.heap[w.heap.size]? = some (.cells #[.int .i64 vk, .int .i64 vi, .string vs, .slice (some ad) xs.length c, .slice A' dn c'] 124 (0, 0))) := ⟨(hf2.block w.heap.size (Nat.lt_of_not_le fun h => by have := HX.out; rw [Array.getElem?_eq_none h] at this; cases this) (by have := HGL.out; omega)).trans HX.out⟩
        clear hc2 hf2 HC HF HX HVV
        cases b with
        | true =>
          go_wp2
          go_ret
          exact ⟨⟨_, rfl⟩, HC2.out, HF2.out⟩
        | false =>
          go_wp2
          go_roundw
          case rel => exact ⟨k + 1, by omega, by go_num, HC2, HF2, HX2⟩
          case measure => simp [intOf]; omega
      · go_wp2_with fail
        go_at_call 42
        refine (HP.out _ HB HC).mono ?_
        rintro e w2 ⟨⟨b, rfl⟩, hc2, hf2⟩
        go_wp2
        go_ret
        exact ⟨⟨_, rfl⟩, hc2, HF.out.trans hf2⟩
set_option maxRecDepth 100000 in
theorem value_zero (g : Nat) : VOk g 0 := by
  intro W0 w v cs hK hb hg hc
  obtain ⟨A, c, A', c', rfl, hc1, hc2, hl, hd⟩ := KV_open hK
  have HC0 := Aside0.mk hc
  clear hK hb hg hc hl hd hc1 hc2
  go_enter Try.func74, Try.ntmps74
  go_wp2_with fail
  go_at_call 40
  refine (add_any g _ _ (HC0.out.below (below_alloc (Below.refl _ _) _))).mono ?_
  rintro e w1 ⟨⟨b, rfl⟩, hc1, hf1⟩
  go_wp2
  go_ret
  exact ⟨⟨_, rfl⟩, hc1, (Fr.of_below (below_alloc (Below.refl _ _) _)).trans hf1⟩
theorem far_ok (g : Nat) : ∀ L : Nat, L ≤ 65536 → VOk g L ∧ POk g L
  | 0, _ => ⟨value_zero g, pairs_of g 0 (value_zero g)⟩
  | L + 1, h => by
    obtain ⟨h1, h2⟩ := far_ok g L (by omega)
    have h3 := value_of g L (by omega) h1 h2
    exact ⟨h3, pairs_of g (L + 1) h3⟩
set_option maxRecDepth 100000 in
theorem texts_any (g : Nat) (W0 w : World) (xs : List ByteArray) (A : Option Addr) (c : Nat) (hK : Kd.string.C W0 A xs.length xs) (hb : Below W0.heap.size W0 w) (hg : W0.heap.size ≤ g) (hc : CN g w) :
    Calls Try.prog 41 #[.pointer (some ⟨g, 0, none⟩), .slice A xs.length c] w (FarR g w) := by
  have hlen : xs.length ≤ 9223372036854775807 := hK.2.1
  have HK := Aside0.mk hK
  have HB0 := Aside0.mk hb
  have HC0 := Aside0.mk hc
  have HG := Lib.hid hg
  clear hK hb hg hc
  go_enter Try.func41, Try.ntmps41
  go_wp2
  go_loopw [5] (fun i wr => ∃ k : Nat, k ≤ xs.length ∧ i = .int .i64 k ∧ Aside0 (CN g wr) ∧ Aside0 (Fr g w wr)) (fun i _ => xs.length - (intOf i).toNat)
  case atStart => exact ⟨0, by omega, rfl, HC0, ⟨Fr.refl _ _⟩⟩
  case round =>
    obtain ⟨k, hk, rfl, HC, HF⟩ := hrel
    have HB := Aside0.mk (HF.out.below HB0.out (Nat.le_refl _) HG.out)
    by_cases hlt : k < xs.length
    · obtain ⟨ad, e0, hs⟩ := at_str HK.out k hlt
      subst e0
      have hs1 := cell_stay HB.out hs
      clear hs
      go_wp2_with fail
      go_at_call 40
      refine (add_any g _ _ HC.out).mono ?_
      rintro e w1 ⟨⟨b, rfl⟩, hc1, hf1⟩
      have HC1 := Aside0.mk hc1
      have HF1 := Aside0.mk (HF.out.trans hf1)
      clear hc1 hf1
      cases b with
      | true =>
        go_wp2
        go_ret
        exact ⟨⟨_, rfl⟩, HC1.out, HF1.out⟩
      | false =>
        go_wp2
        go_roundw
        case rel => exact ⟨k + 1, by omega, by go_num, HC1, HF1⟩
        case measure => simp [intOf]; omega
    · go_wp2
      go_ret
      exact ⟨⟨_, rfl⟩, HC.out, HF.out⟩
end Far
end Go.Proofs.Ytjeeakhgjcbhaaa
set_option linter.unusedVariables false
set_option linter.unusedSimpArgs false
namespace Go.Proofs.Ytjeeakhgjcbhaaa
open Go.RowKit Go.Proofs.YtjeeakhgjcbhaaaW.PrintWords
namespace Far
open Wd Vl Mt
set_option maxHeartbeats 2000000 in
set_option maxRecDepth 100000 in
theorem farMeta_any (m : MetaD) (cs : List Value) (w : World) (hK : KMeta.K w m cs) :
    Calls Try.prog 17 #[.agg cs.toArray] w fun e w' => (∃ b, e = .returned (.bool b)) ∧ Below w.heap.size w w' := by
  obtain ⟨AF, cF, AL, cL, AI, cI, AT, cT, rfl, hF, hL, hI, hT⟩ := meta_open hK
  have q1 : m.2.2.1.length ≤ 9223372036854775807 := hF.2.1
  have q2 : m.2.2.2.1.length ≤ 9223372036854775807 := hL.2.1
  have HF := Aside0.mk hF
  have HL := Aside0.mk hL
  have HI := Aside0.mk hI
  have HT := Aside0.mk hT
  clear hK hF hL hI hT
  have HC : Aside0 (CN (w.heap.size + 1) ((w.alloc (.cells #[.string m.1, .int .i64 m.2.1, .slice AF m.2.2.1.length cF, .slice AL m.2.2.2.1.length cL, .slice AI m.2.2.2.2.1.length cI, .slice AT m.2.2.2.2.2.length cT] 46)).alloc (.cells #[.int .i64 0] 79))) := ⟨0, by have := heap_alloc_new (w.alloc (.cells #[.string m.1, .int .i64 m.2.1, .slice AF m.2.2.1.length cF, .slice AL m.2.2.2.1.length cL, .slice AI m.2.2.2.2.1.length cI, .slice AT m.2.2.2.2.2.length cT] 46)) (.cells #[.int .i64 0] 79); rwa [World.size_alloc] at this⟩
  have HB : Aside0 (Below w.heap.size w ((w.alloc (.cells #[.string m.1, .int .i64 m.2.1, .slice AF m.2.2.1.length cF, .slice AL m.2.2.2.1.length cL, .slice AI m.2.2.2.2.1.length cI, .slice AT m.2.2.2.2.2.length cT] 46)).alloc (.cells #[.int .i64 0] 79))) := ⟨below_alloc (below_alloc (Below.refl _ _) _) _⟩
  have HX : Aside0 (((w.alloc (.cells #[.string m.1, .int .i64 m.2.1, .slice AF m.2.2.1.length cF, .slice AL m.2.2.2.1.length cL, .slice AI m.2.2.2.2.1.length cI, .slice AT m.2.2.2.2.2.length cT] 46)).alloc (.cells #[.int .i64 0] 79)).heap[w.heap.size]? = some (.cells #[.string m.1, .int .i64 m.2.1, .slice AF m.2.2.1.length cF, .slice AL m.2.2.2.1.length cL, .slice AI m.2.2.2.2.1.length cI, .slice AT m.2.2.2.2.2.length cT] 46)) := ⟨(Below.heap_alloc _ _ _ (by rw [World.size_alloc]; omega)).trans (heap_alloc_new w _)⟩
  go_enter Try.func17, Try.ntmps17
  go_wp2_with fail
  go_at_call 40
  refine (add_any _ _ _ HC.out).mono ?_
  rintro e w4 ⟨⟨b, rfl⟩, hc4, hf4⟩
  have HX4 : Aside0 (w4.heap[w.heap.size]? = some (.cells #[.string m.1, .int .i64 m.2.1, .slice AF m.2.2.1.length cF, .slice AL m.2.2.2.1.length cL, .slice AI m.2.2.2.2.1.length cI, .slice AT m.2.2.2.2.2.length cT] 46)) := ⟨(hf4.block w.heap.size (Nat.lt_of_not_le fun h => by have := HX.out; rw [Array.getElem?_eq_none h] at this; cases this) (by omega)).trans HX.out⟩
  have HC4 := Aside0.mk hc4
  have HB4 := Aside0.mk (hf4.below HB.out (Nat.le_refl _) (by omega))
  clear hc4 hf4
  cases b with
  | true =>
    go_wp2
    go_ret
    exact ⟨⟨_, rfl⟩, HB4.out⟩
  | false =>
    clear HX HC HB
    have HX := HX4
    have HC := HC4
    have HB := HB4
    clear HX4 HC4 HB4
    have hx0 : w4.cell? ⟨w.heap.size, 0, none⟩ = some (.string m.1) := by rw [Go.Joins.cell_of_block HX.out]; rfl
    have hx2 : w4.cell? ⟨w.heap.size, 2, none⟩ = some (.slice AF m.2.2.1.length cF) := by rw [Go.Joins.cell_of_block HX.out]; rfl
    have hx3 : w4.cell? ⟨w.heap.size, 3, none⟩ = some (.slice AL m.2.2.2.1.length cL) := by rw [Go.Joins.cell_of_block HX.out]; rfl
    have hx4 : w4.cell? ⟨w.heap.size, 4, none⟩ = some (.slice AI m.2.2.2.2.1.length cI) := by rw [Go.Joins.cell_of_block HX.out]; rfl
    have hx5 : w4.cell? ⟨w.heap.size, 5, none⟩ = some (.slice AT m.2.2.2.2.2.length cT) := by rw [Go.Joins.cell_of_block HX.out]; rfl
    go_wp2
    go_loopw [5] (fun i wr => ∃ k : Nat, k ≤ m.2.2.1.length ∧ i = .int .i64 k ∧ Aside0 (CN (w.heap.size + 1) wr) ∧ Aside0 (Below w.heap.size w wr) ∧ Aside0 (wr.heap[w.heap.size]? = some (.cells #[.string m.1, .int .i64 m.2.1, .slice AF m.2.2.1.length cF, .slice AL m.2.2.2.1.length cL, .slice AI m.2.2.2.2.1.length cI, .slice AT m.2.2.2.2.2.length cT] 46))) (fun i _ => m.2.2.1.length - (intOf i).toNat)
    case atStart => exact ⟨0, by omega, rfl, HC, HB, HX⟩
    case round =>
      clear HC HB HX hx0 hx2 hx3 hx4 hx5
      obtain ⟨k, hk, rfl, HC, HB, HX⟩ := hrel
      have hx0 : wr.cell? ⟨w.heap.size, 0, none⟩ = some (.string m.1) := by rw [Go.Joins.cell_of_block HX.out]; rfl
      have hx2 : wr.cell? ⟨w.heap.size, 2, none⟩ = some (.slice AF m.2.2.1.length cF) := by rw [Go.Joins.cell_of_block HX.out]; rfl
      have hx3 : wr.cell? ⟨w.heap.size, 3, none⟩ = some (.slice AL m.2.2.2.1.length cL) := by rw [Go.Joins.cell_of_block HX.out]; rfl
      have hx4 : wr.cell? ⟨w.heap.size, 4, none⟩ = some (.slice AI m.2.2.2.2.1.length cI) := by rw [Go.Joins.cell_of_block HX.out]; rfl
      have hx5 : wr.cell? ⟨w.heap.size, 5, none⟩ = some (.slice AT m.2.2.2.2.2.length cT) := by rw [Go.Joins.cell_of_block HX.out]; rfl
      by_cases hlt : k < m.2.2.1.length
      · skip
        obtain ⟨ad, cs, e0, hl35, hf, hcs⟩ := at_file HF.out k hlt
        have E0 := Lib.hid e0
        clear e0
        rw [E0.out] at hx2
        obtain ⟨Ap, cp, Am, cm, rfl, hcp, hcm, hp, hm⟩ := file_open hf
        have HP := Aside0.mk hp
        have HM := Aside0.mk hm
        have HY0 : Hid (∀ w1, Aside0 (Below w.heap.size w w1) → w1.cell? (ad.add (k * 35)) = some (.slice Ap (m.2.2.1.getD k f0).1.length cp)) := Lib.hid fun w1 h => cell_stay h.out (by have := hcs 0 _ rfl; simpa using this)
        have HY34 : Hid (∀ w1, Aside0 (Below w.heap.size w w1) → w1.cell? ⟨(ad.add (k * 35)).block, (ad.add (k * 35)).off + 34, none⟩ = some (.slice Am (m.2.2.1.getD k f0).2.2.2.length cm)) := Lib.hid fun w1 h => cell_stay h.out (Fl.fcell 34 (by omega) (hcs 34 _ (by rw [List.getElem?_append_right (by simp), List.getElem?_append_right (by rw [encH_len]; simp), encH_len]; rfl)))
        clear hf hcs hl35 hcp hcm hp hm
        generalize (m.2.2.1.getD k f0).1 = path at *
        generalize (m.2.2.1.getD k f0).2.2.2 = more at *
        have hy0 := HY0.out wr HB
        go_wp2_with fail
        go_at_call 41
        refine (texts_any (w.heap.size + 1) w _ path _ _ HP.out HB.out (by omega) HC.out).mono ?_
        rintro e w7 ⟨⟨b, rfl⟩, hc7, hf7⟩
        have HX7 : Aside0 (w7.heap[w.heap.size]? = some (.cells #[.string m.1, .int .i64 m.2.1, .slice AF m.2.2.1.length cF, .slice AL m.2.2.2.1.length cL, .slice AI m.2.2.2.2.1.length cI, .slice AT m.2.2.2.2.2.length cT] 46)) := ⟨(hf7.block w.heap.size (Nat.lt_of_not_le fun h => by have := HX.out; rw [Array.getElem?_eq_none h] at this; cases this) (by omega)).trans HX.out⟩
        have HC7 := Aside0.mk hc7
        have HB7 := Aside0.mk (hf7.below HB.out (Nat.le_refl _) (by omega))
        clear hc7 hf7
        cases b with
        | true =>
          go_wp2
          go_ret
          exact ⟨⟨_, rfl⟩, HB7.out⟩
        | false =>
          clear HX HC HB
          have HX := HX7
          have HC := HC7
          have HB := HB7
          clear HX7 HC7 HB7
          have hy34 := HY34.out _ HB
          clear hx0 hx2 hx3 hx4 hx5
          have hx0 : w7.cell? ⟨w.heap.size, 0, none⟩ = some (.string m.1) := by rw [Go.Joins.cell_of_block HX.out]; rfl
          have hx2 : w7.cell? ⟨w.heap.size, 2, none⟩ = some (.slice AF m.2.2.1.length cF) := by rw [Go.Joins.cell_of_block HX.out]; rfl
          have hx3 : w7.cell? ⟨w.heap.size, 3, none⟩ = some (.slice AL m.2.2.2.1.length cL) := by rw [Go.Joins.cell_of_block HX.out]; rfl
          have hx4 : w7.cell? ⟨w.heap.size, 4, none⟩ = some (.slice AI m.2.2.2.2.1.length cI) := by rw [Go.Joins.cell_of_block HX.out]; rfl
          have hx5 : w7.cell? ⟨w.heap.size, 5, none⟩ = some (.slice AT m.2.2.2.2.2.length cT) := by rw [Go.Joins.cell_of_block HX.out]; rfl
          rw [E0.out] at hx2
          go_wp2_with fail
          go_at_call 42
          refine ((far_ok (w.heap.size + 1) 65520 (by omega)).2 w _ more _ _ HM.out HB.out (by omega) HC.out).mono ?_
          rintro e w8 ⟨⟨b, rfl⟩, hc8, hf8⟩
          have HX8 : Aside0 (w8.heap[w.heap.size]? = some (.cells #[.string m.1, .int .i64 m.2.1, .slice AF m.2.2.1.length cF, .slice AL m.2.2.2.1.length cL, .slice AI m.2.2.2.2.1.length cI, .slice AT m.2.2.2.2.2.length cT] 46)) := ⟨(hf8.block w.heap.size (Nat.lt_of_not_le fun h => by have := HX.out; rw [Array.getElem?_eq_none h] at this; cases this) (by omega)).trans HX.out⟩
          have HC8 := Aside0.mk hc8
          have HB8 := Aside0.mk (hf8.below HB.out (Nat.le_refl _) (by omega))
          clear hc8 hf8
          cases b with
          | true =>
            go_wp2
            go_ret
            exact ⟨⟨_, rfl⟩, HB8.out⟩
          | false =>
            clear HX HC HB
            have HX := HX8
            have HC := HC8
            have HB := HB8
            clear HX8 HC8 HB8
            go_wp2
            go_roundw
            case rel => exact ⟨k + 1, by omega, by go_num, HC, HB, HX⟩
            case measure => simp [intOf]; omega
      · skip
        go_wp2
        go_loopw [8] (fun i wr => ∃ k : Nat, k ≤ m.2.2.2.1.length ∧ i = .int .i64 k ∧ Aside0 (CN (w.heap.size + 1) wr) ∧ Aside0 (Below w.heap.size w wr) ∧ Aside0 (wr.heap[w.heap.size]? = some (.cells #[.string m.1, .int .i64 m.2.1, .slice AF m.2.2.1.length cF, .slice AL m.2.2.2.1.length cL, .slice AI m.2.2.2.2.1.length cI, .slice AT m.2.2.2.2.2.length cT] 46))) (fun i _ => m.2.2.2.1.length - (intOf i).toNat)
        case atStart => exact ⟨0, by omega, rfl, HC, HB, HX⟩
        case round =>
          clear HC HB HX hx0 hx2 hx3 hx4 hx5
          obtain ⟨k, hk, rfl, HC, HB, HX⟩ := hrel
          have hx0 : wr.cell? ⟨w.heap.size, 0, none⟩ = some (.string m.1) := by rw [Go.Joins.cell_of_block HX.out]; rfl
          have hx2 : wr.cell? ⟨w.heap.size, 2, none⟩ = some (.slice AF m.2.2.1.length cF) := by rw [Go.Joins.cell_of_block HX.out]; rfl
          have hx3 : wr.cell? ⟨w.heap.size, 3, none⟩ = some (.slice AL m.2.2.2.1.length cL) := by rw [Go.Joins.cell_of_block HX.out]; rfl
          have hx4 : wr.cell? ⟨w.heap.size, 4, none⟩ = some (.slice AI m.2.2.2.2.1.length cI) := by rw [Go.Joins.cell_of_block HX.out]; rfl
          have hx5 : wr.cell? ⟨w.heap.size, 5, none⟩ = some (.slice AT m.2.2.2.2.2.length cT) := by rw [Go.Joins.cell_of_block HX.out]; rfl
          by_cases hlt : k < m.2.2.2.1.length
          · skip
            obtain ⟨ad, cs, e0, hl33, hf, hcs⟩ := at_layer HL.out k hlt
            rw [e0] at hx3
            clear e0
            obtain ⟨Ah, ch, rfl, hch, hh⟩ := layer_open hf
            have hy32 : wr.cell? ⟨(ad.add (k * 33)).block, (ad.add (k * 33)).off + 32, none⟩ = some (.slice Ah (m.2.2.2.1.getD k l0).2.length ch) := cell_stay HB.out (Fl.fcell 32 (by omega) (hcs 32 _ (by rw [List.getElem?_append_right (by rw [encH_len]; simp), encH_len]; rfl)))
            clear hf hcs hl33 hch hh
            generalize (m.2.2.2.1.getD k l0).2.length = nh at *
            go_wp2_with fail
            go_at_call 40
            refine (add_any _ _ _ HC.out).mono ?_
            rintro e w7 ⟨⟨b, rfl⟩, hc7, hf7⟩
            have HX7 : Aside0 (w7.heap[w.heap.size]? = some (.cells #[.string m.1, .int .i64 m.2.1, .slice AF m.2.2.1.length cF, .slice AL m.2.2.2.1.length cL, .slice AI m.2.2.2.2.1.length cI, .slice AT m.2.2.2.2.2.length cT] 46)) := ⟨(hf7.block w.heap.size (Nat.lt_of_not_le fun h => by have := HX.out; rw [Array.getElem?_eq_none h] at this; cases this) (by omega)).trans HX.out⟩
            have HC7 := Aside0.mk hc7
            have HB7 := Aside0.mk (hf7.below HB.out (Nat.le_refl _) (by omega))
            clear hc7 hf7
            cases b with
            | true =>
              go_wp2
              go_ret
              exact ⟨⟨_, rfl⟩, HB7.out⟩
            | false =>
              clear HX HC HB
              have HX := HX7
              have HC := HC7
              have HB := HB7
              clear HX7 HC7 HB7
              go_wp2
              go_roundw
              case rel => exact ⟨k + 1, by omega, by go_num, HC, HB, HX⟩
              case measure => simp [intOf]; omega
          · skip
            go_wp2_with fail
            go_at_call 42
            refine ((far_ok (w.heap.size + 1) 65520 (by omega)).2 w _ m.2.2.2.2.1 _ _ HI.out HB.out (by omega) HC.out).mono ?_
            rintro e w8 ⟨⟨b, rfl⟩, hc8, hf8⟩
            have HX8 : Aside0 (w8.heap[w.heap.size]? = some (.cells #[.string m.1, .int .i64 m.2.1, .slice AF m.2.2.1.length cF, .slice AL m.2.2.2.1.length cL, .slice AI m.2.2.2.2.1.length cI, .slice AT m.2.2.2.2.2.length cT] 46)) := ⟨(hf8.block w.heap.size (Nat.lt_of_not_le fun h => by have := HX.out; rw [Array.getElem?_eq_none h] at this; cases this) (by omega)).trans HX.out⟩
            have HC8 := Aside0.mk hc8
            have HB8 := Aside0.mk (hf8.below HB.out (Nat.le_refl _) (by omega))
            clear hc8 hf8
            cases b with
            | true =>
              go_wp2
              go_ret
              exact ⟨⟨_, rfl⟩, HB8.out⟩
            | false =>
              clear HX HC HB
              have HX := HX8
              have HC := HC8
              have HB := HB8
              clear HX8 HC8 HB8
              have hx0 : w8.cell? ⟨w.heap.size, 0, none⟩ = some (.string m.1) := by rw [Go.Joins.cell_of_block HX.out]; rfl
              have hx2 : w8.cell? ⟨w.heap.size, 2, none⟩ = some (.slice AF m.2.2.1.length cF) := by rw [Go.Joins.cell_of_block HX.out]; rfl
              have hx3 : w8.cell? ⟨w.heap.size, 3, none⟩ = some (.slice AL m.2.2.2.1.length cL) := by rw [Go.Joins.cell_of_block HX.out]; rfl
              have hx4 : w8.cell? ⟨w.heap.size, 4, none⟩ = some (.slice AI m.2.2.2.2.1.length cI) := by rw [Go.Joins.cell_of_block HX.out]; rfl
              have hx5 : w8.cell? ⟨w.heap.size, 5, none⟩ = some (.slice AT m.2.2.2.2.2.length cT) := by rw [Go.Joins.cell_of_block HX.out]; rfl
              go_wp2_with fail
              go_at_call 42
              refine ((far_ok (w.heap.size + 1) 65520 (by omega)).2 w _ m.2.2.2.2.2 _ _ HT.out HB.out (by omega) HC.out).mono ?_
              rintro e w9 ⟨⟨b, rfl⟩, hc9, hf9⟩
              have HX9 : Aside0 (w9.heap[w.heap.size]? = some (.cells #[.string m.1, .int .i64 m.2.1, .slice AF m.2.2.1.length cF, .slice AL m.2.2.2.1.length cL, .slice AI m.2.2.2.2.1.length cI, .slice AT m.2.2.2.2.2.length cT] 46)) := ⟨(hf9.block w.heap.size (Nat.lt_of_not_le fun h => by have := HX.out; rw [Array.getElem?_eq_none h] at this; cases this) (by omega)).trans HX.out⟩
              have HC9 := Aside0.mk hc9
              have HB9 := Aside0.mk (hf9.below HB.out (Nat.le_refl _) (by omega))
              clear hc9 hf9
              go_wp2
              go_ret
              exact ⟨⟨_, rfl⟩, HB9.out⟩
end Far
end Go.Proofs.Ytjeeakhgjcbhaaa
set_option linter.unusedVariables false
set_option linter.unusedSimpArgs false
namespace Go.Proofs.Ytjeeakhgjcbhaaa
open Go.RowKit Go.Proofs.YtjeeakhgjcbhaaaW.PrintWords Go.Proofs.YtjeeakhgjcbhaaaW
namespace Mt
open Wd Vl
/-- One metainfo in its box. -/
structure Bx (w : World) (m : MetaD) (g : Nat) (cs : List Value) (W : World) : Prop where
  bx : W.heap[g]? = some (.cells cs.toArray 46)
  k : KMeta.K W m cs
  bel : Below w.heap.size w W
section
variable {w W W1 : World} {m : MetaD} {g : Nat} {cs : List Value}
theorem Bx.below (h : Bx w m g cs W) (hb : Below W.heap.size W W1) : Bx w m g cs W1 := ⟨blk_below h.bx hb, KMeta.K_below hb h.k, below_step h.bel hb⟩
theorem Bx.load (h : Bx w m g cs W) : ∀ j u, cs[j]? = some u → W.cell? ((⟨g, 0, none⟩ : Addr).add j) = some u := fun j u hj => by rw [Go.WideShapes.add_plain, Go.Joins.cell_of_block h.bx, List.getElem?_toArray, Nat.zero_add]; exact hj
theorem Bx.first (w : World) (hK : KMeta.K w m cs) : Bx w m w.heap.size cs (w.alloc (.cells cs.toArray 46)) := ⟨heap_alloc_new w _, KMeta.K_below (below_alloc (Below.refl _ _) _) hK, below_alloc (Below.refl _ _) _⟩
/-- The twin, stored into a box of its own. -/
theorem Bx.twin {W0 : World} (hb : Below w.heap.size w W) (hl : W0.heap.size ≤ W.heap.size) (hB : Below W0.heap.size W0 W) (h : (KMT W0).M W W0.heap.size (fun _ => True) m cs) : Bx w m W.heap.size cs (W.alloc (.cells cs.toArray 46)) :=
  ⟨heap_alloc_new W _, KMeta.K_below (below_alloc (Below.refl _ _) _) (KMT_read hB ((KMT W0).K_of_M h)), below_alloc hb _⟩
theorem Bx.sz (h : Bx w m g cs W) : cs.length = 6 := KMeta.K_len h.k
theorem Bx.info (h : Bx w m g cs W) : (Try.prog.info? 46).map (·.size) = some cs.length := by rw [h.sz]; kernel_rfl
theorem Bx.info' (h : Bx w m g cs W) : (Try.prog.info? 46).map (·.size) = some cs.toArray.size := by rw [List.size_toArray]; exact h.info
theorem Bx.one (h : Bx w m g cs W) : cs.toArray.all (·.oneCell') = true := Fl.all_one fun u hu => KMeta.K_one h.k u hu
theorem Bx.alloc_ (h : Bx w m g cs W) (o : Obj) : ∀ V, V = W.alloc o → Bx w m g cs V := by rintro _ rfl; exact h.below (below_alloc (Below.refl _ _) o)
theorem Bx.second (w : World) (o : Obj) (hK : KMeta.K w m cs) : Bx w m (w.heap.size + 1) cs ((w.alloc o).alloc (.cells cs.toArray 46)) := by
  have h := heap_alloc_new (w.alloc o) (.cells cs.toArray 46)
  rw [World.size_alloc] at h
  exact ⟨h, KMeta.K_below (below_alloc (below_alloc (Below.refl _ _) _) _) hK, below_alloc (below_alloc (Below.refl _ _) _) _⟩
theorem Bx.pl (h : Bx w m g cs W) : W.cell? ⟨g, 1, none⟩ = some (.int .i64 m.2.1) := by
  obtain ⟨AF, cF, AL, cL, AI, cI, AT, cT, e, _⟩ := meta_open h.k
  have := h.load 1 (.int .i64 m.2.1) (by rw [e]; rfl)
  exact this
theorem sizeM (h : cs.length = 6) : (#[.string ⟨#[]⟩, .int .i64 0, .slice none 0 0, .slice none 0 0, .slice none 0 0, .slice none 0 0] : Array Value).size = cs.toArray.size := (show _ = cs.length by rw [h]; rfl)
end
/-- A scale in its box. -/
structure Sx (b wd : Int) (g : Nat) (W : World) : Prop where
  bx : W.heap[g]? = some (.cells #[.int .i64 b, .int .i64 wd] 34)
section
variable {W W1 : World} {b wd : Int} {g : Nat}
theorem Sx.below (h : Sx b wd g W) (hb : Below W.heap.size W W1) : Sx b wd g W1 := ⟨blk_below h.bx hb⟩
theorem Sx.alloc_ (h : Sx b wd g W) (o : Obj) : ∀ V, V = W.alloc o → Sx b wd g V := by rintro _ rfl; exact h.below (below_alloc (Below.refl _ _) o)
theorem Sx.c0 (h : Sx b wd g W) : W.cell? ⟨g, 0, none⟩ = some (.int .i64 b) := Go.Joins.cell_of_block h.bx 0
theorem Sx.c1 (h : Sx b wd g W) : W.cell? ⟨g, 1, none⟩ = some (.int .i64 wd) := Go.Joins.cell_of_block h.bx 1
theorem Sx.first (w : World) (b wd : Int) (o : Obj) : Sx b wd w.heap.size ((w.alloc (.cells #[.int .i64 b, .int .i64 wd] 34)).alloc o) := ⟨blk_alloc (heap_alloc_new w _) _⟩
end
end Mt
end Go.Proofs.Ytjeeakhgjcbhaaa
set_option linter.unusedVariables false
set_option linter.unusedSimpArgs false
namespace Go.Proofs.Ytjeeakhgjcbhaaa
open Go.RowKit Go.Proofs.YtjeeakhgjcbhaaaW.PrintWords Go.Proofs.YtjeeakhgjcbhaaaW Go.Proofs.YtjeeakhgjcbhaaaW.PrintMore
namespace Cr
open Wd Vl Mt PCreateBlocks P2
attribute [local go_sem] max2_int min2_int max_two min_two max_three min_three max_four min_four
set_option maxHeartbeats 4000000 in
set_option maxRecDepth 100000 in
theorem scaled_any (b wd : Int) (m : MetaD) (cs : List Value) (w : World) (hK : KMeta.K w m cs) (hG : GMeta m) :
    Calls Try.prog 67 #[.agg #[.int .i64 b, .int .i64 wd], .agg cs.toArray] w fun e w' => e = .returned (.int .i64 (cscaled b wd m)) ∧ Below w.heap.size w w' := by
  have HX0 : Hid (∀ V, V = (w.alloc (.cells #[.int .i64 b, .int .i64 wd] 34)).alloc (.cells cs.toArray 46) → Bx w m (w.heap.size + 1) cs V) := Lib.hid (by rintro _ rfl; exact Bx.second w _ hK)
  have HS0 : Hid (∀ V, V = (w.alloc (.cells #[.int .i64 b, .int .i64 wd] 34)).alloc (.cells cs.toArray 46) → Sx b wd w.heap.size V) := Lib.hid (by rintro _ rfl; exact Sx.first w b wd _)
  have HG := Lib.hid hG
  have HK := Aside0.mk hK
  clear hK hG
  go_enter Try.func67, Try.ntmps67
  go_upto_region 1 with fail
  obtain ⟨V, hV⟩ : ∃ V, V = (w.alloc (.cells #[.int .i64 b, .int .i64 wd] 34)).alloc (.cells cs.toArray 46) := ⟨_, rfl⟩
  have HX := Aside0.mk (HX0.out _ hV)
  have HS := Aside0.mk (HS0.out _ hV)
  rw [← hV]
  clear hV HX0 HS0
  have E0 : Hid (cscaled b wd m = if scE b wd = 0 then (if cfault m = 0 then (if m.2.1 < b ∨ m.2.1 > b * 1024 then 83 else 0) else cfault m) else scE b wd) := Lib.hid rfl
  have HGD := Lib.hid (fun W => digest_Good.calls 1 b wd (scE b wd) W (good_val b wd))
  have hsc := fun h => (scE_ok (b := b) (wd := wd) h).2
  have HSC := Lib.hid hsc
  clear hsc
  have hc0 := HS.out.c0
  have hc1 := HS.out.c1
  go_wp2_with fail
  go_at_call 51
  refine (HGD.out _).mono ?_
  rintro e w1 ⟨rfl, hb1⟩
  clear hc0 hc1
  replace HX := Aside0.mk (HX.out.below hb1)
  replace HS := Aside0.mk (HS.out.below hb1)
  clear hb1
  generalize scE b wd = se at *
  by_cases h1 : se = 0
  · obtain ⟨b1, b2⟩ := HSC.out h1
    subst h1
    have E1 := Lib.hid (E0.out.trans (if_pos rfl))
    have HFA := Lib.hid (fun W (h : KMeta.K W m cs) => fault_any m cs W h HG.out)
    clear E0 HSC HGD
    go_wp2_with ((with_reducible refine Fl.wpList_load rfl 46 (.tmp 3) rfl (⟨w.heap.size + 1, 0, none⟩) ?lx (cs) _ ?lc Try.underlying46 rfl ?li ?_); (case lx => rfl); (case lc => exact HX.out.load); (case li => exact HX.out.info))
    go_at_call 53
    refine (HFA.out _ HX.out.k).mono ?_
    rintro e w2 ⟨rfl, hb2⟩
    replace HX := Aside0.mk (HX.out.below hb2)
    replace HS := Aside0.mk (HS.out.below hb2)
    clear hb2
    generalize cfault m = fe at *
    by_cases h2 : fe = 0
    · subst h2
      have E2 := Lib.hid (E1.out.trans (if_pos rfl))
      have hc0 := HS.out.c0
      have hpl := HX.out.pl
      clear E1 HFA
      by_cases h3 : m.2.1 < b
      · have d3 : decide (m.2.1 < b) = true := decide_eq_true h3
        have E3 := Lib.hid (E2.out.trans (if_pos (Or.inl h3)))
        go_wp2
        go_ret
        exact ⟨by rw [E3.out]; rfl, HX.out.bel⟩
      · have d3 : decide (m.2.1 < b) = false := decide_eq_false h3
        by_cases h4 : m.2.1 > b * 1024
        · have d4 : decide (m.2.1 > b * 1024) = true := decide_eq_true h4
          have E3 := Lib.hid (E2.out.trans (if_pos (Or.inr h4)))
          go_wp2
          go_ret
          exact ⟨by rw [E3.out]; rfl, HX.out.bel⟩
        · have d4 : decide (m.2.1 > b * 1024) = false := decide_eq_false h4
          have E3 := Lib.hid (E2.out.trans (if_neg (by omega)))
          go_wp2
          go_ret
          exact ⟨by rw [E3.out]; rfl, HX.out.bel⟩
    · have E2 := Lib.hid (E1.out.trans (if_neg h2))
      have d2 : (fe == 0) = false := by simp [h2]
      have d3 : (fe != 0) = true := by simp [h2]
      go_wp2
      go_ret
      exact ⟨by rw [E2.out]; rfl, HX.out.bel⟩
  · have E1 := Lib.hid (E0.out.trans (if_neg h1))
    have d2 : (se == 0) = false := by simp [h1]
    have d3 : (se != 0) = true := by simp [h1]
    go_wp2
    go_ret
    exact ⟨by rw [E1.out]; rfl, HX.out.bel⟩
theorem one4 (a b c d : Int) : ∀ u ∈ ([.int .i64 a, .int .i64 b, .int .i64 c, .int .i64 d] : List Value), u.oneCell' = true := by
  intro u hu
  simp only [List.mem_cons, List.not_mem_nil, or_false] at hu
  rcases hu with rfl | rfl | rfl | rfl <;> rfl
theorem parts_val {n b : Int} (hb : b ≠ 0) : create_parts.f n b = some (cP n b) := by
  unfold create_parts.f cP
  rw [if_neg hb]
theorem cscaled_b {b wd : Int} {m : MetaD} (h : cscaled b wd m = 0) : b ≠ 0 := by
  unfold cscaled at h
  by_cases h3 : scE b wd = 0
  · have := (scE_ok h3).2
    omega
  · rw [if_neg h3] at h; exact absurd h h3
set_option maxHeartbeats 4000000 in
set_option maxRecDepth 100000 in
theorem Blocks_any (b wd : Int) (m : MetaD) (cs : List Value) (piece : Int) (w : World) (hK : KMeta.K w m cs) (hG : GMeta m) :
    Calls Try.prog 34 #[.agg #[.int .i64 b, .int .i64 wd], .agg cs.toArray, .int .i64 piece] w fun e w' => e = .returned (.tuple #[.int .i64 (nB b wd m piece), .int .i64 (eB b wd m piece)]) ∧ Below w.heap.size w w' := by
  have HX0 : Hid (∀ V, V = (w.alloc (.cells #[.int .i64 b, .int .i64 wd] 34)).alloc (.cells cs.toArray 46) → Bx w m (w.heap.size + 1) cs V) := Lib.hid (by rintro _ rfl; exact Bx.second w _ hK)
  have HS0 : Hid (∀ V, V = (w.alloc (.cells #[.int .i64 b, .int .i64 wd] 34)).alloc (.cells cs.toArray 46) → Sx b wd w.heap.size V) := Lib.hid (by rintro _ rfl; exact Sx.first w b wd _)
  have HG := Lib.hid hG
  have HK := Aside0.mk hK
  clear hK hG
  go_enter Try.func34, Try.ntmps34
  go_upto_region 1 with fail
  obtain ⟨V, hV⟩ : ∃ V, V = (w.alloc (.cells #[.int .i64 b, .int .i64 wd] 34)).alloc (.cells cs.toArray 46) := ⟨_, rfl⟩
  have HX := Aside0.mk (HX0.out _ hV)
  have HS := Aside0.mk (HS0.out _ hV)
  rw [← hV]
  clear hV HX0 HS0
  have E0 : Hid (eB b wd m piece = if cscaled b wd m = 0 then (WhereR m piece).2.2.2.2 else cscaled b wd m) := Lib.hid rfl
  have N0 : Hid (nB b wd m piece = if eB b wd m piece = 0 then cP (WhereR m piece).2.2.2.1 b else 0) := Lib.hid rfl
  have HSA := Lib.hid (fun W (h : KMeta.K W m cs) => scaled_any b wd m cs W h HG.out)
  have HWA := Lib.hid (fun W (h : KMeta.K W m cs) => Where_any m cs piece W h HG.out)
  have HCB := Lib.hid (cscaled_b (b := b) (wd := wd) (m := m))
  have hc0 := HS.out.c0
  have hc1 := HS.out.c1
  go_wp2_with ((with_reducible refine Fl.wpList_load rfl 46 (.tmp 4) rfl (⟨w.heap.size + 1, 0, none⟩) ?lx (cs) _ ?lc Try.underlying46 rfl ?li ?_); (case lx => rfl); (case lc => exact HX.out.load); (case li => exact HX.out.info))
  go_at_call 67
  refine (HSA.out _ HX.out.k).mono ?_
  rintro e w1 ⟨rfl, hb1⟩
  clear hc0 hc1
  replace HX := Aside0.mk (HX.out.below hb1)
  replace HS := Aside0.mk (HS.out.below hb1)
  clear hb1
  generalize cscaled b wd m = se at *
  by_cases h1 : se = 0
  · have hbz := HCB.out h1
    subst h1
    have E1 := Lib.hid (E0.out.trans (if_pos rfl))
    clear E0 HCB HSA
    generalize (WhereR m piece).1 = p1 at *
    generalize (WhereR m piece).2.1 = p2 at *
    generalize (WhereR m piece).2.2.1 = p3 at *
    generalize (WhereR m piece).2.2.2.1 = p4 at *
    generalize (WhereR m piece).2.2.2.2 = p5 at *
    go_wp2_with ((with_reducible refine Fl.wpList_load rfl 46 (.tmp 4) rfl (⟨w.heap.size + 1, 0, none⟩) ?lx (cs) _ ?lc Try.underlying46 rfl ?li ?_); (case lx => rfl); (case lc => exact HX.out.load); (case li => exact HX.out.info))
    go_at_call 23
    refine (HWA.out _ HX.out.k).mono ?_
    rintro e w2 ⟨rfl, hb2⟩
    replace HX := Aside0.mk (HX.out.below hb2)
    replace HS := Aside0.mk (HS.out.below hb2)
    clear hb2
    have HP0 : Hid (∀ V, V = w2.alloc (.cells ([.int .i64 p1, .int .i64 p2, .int .i64 p3, .int .i64 p4] : List Value).toArray 53) → V.heap[w2.heap.size]? = some (.cells ([.int .i64 p1, .int .i64 p2, .int .i64 p3, .int .i64 p4] : List Value).toArray 53)) := Lib.hid (by rintro _ rfl; exact heap_alloc_new _ _)
    have QHX := Lib.hid (HX.out.alloc_ (.cells ([.int .i64 p1, .int .i64 p2, .int .i64 p3, .int .i64 p4] : List Value).toArray 53))
    have QHS := Lib.hid (HS.out.alloc_ (.cells ([.int .i64 p1, .int .i64 p2, .int .i64 p3, .int .i64 p4] : List Value).toArray 53))
    have HI := Lib.hid (show (Try.prog.info? 53).map (·.size) = some ([.int .i64 p1, .int .i64 p2, .int .i64 p3, .int .i64 p4] : List Value).toArray.size by kernel_rfl)
    have HO := Lib.hid (one4 p1 p2 p3 p4)
    go_upto_region 5 with (((with_reducible refine Fl.wpList_store_fresh rfl 53 (.tmp 9) (.tmp 21) rfl 53 _ ([.int .i64 p1, .int .i64 p2, .int .i64 p3, .int .i64 p4]).toArray ?sx ?sy ?si ?so ?s1 ?_); (case sx => rfl); (case sy => rfl); (case si => exact HI.out); (case so => exact rfl); (case s1 => exact Fl.all_one HO.out)))
    obtain ⟨V, h3⟩ : ∃ V, V = w2.alloc (.cells ([.int .i64 p1, .int .i64 p2, .int .i64 p3, .int .i64 p4] : List Value).toArray 53) := ⟨_, rfl⟩
    replace HX := Aside0.mk (QHX.out _ h3)
    replace HS := Aside0.mk (QHS.out _ h3)
    have HP := Aside0.mk (HP0.out _ h3)
    rw [← h3]
    clear h3 HP0 HI HO QHX QHS
    generalize w2.heap.size = gp at *
    have hc0 := HS.out.c0
    have hp3 : V.cell? ⟨gp, 3, none⟩ = some (.int .i64 p4) := Go.Joins.cell_of_block HP.out 3
    by_cases h2 : p5 = 0
    · subst h2
      have N1 := Lib.hid (N0.out.trans (if_pos E1.out))
      have HPA := Lib.hid (fun W => create_parts.calls p4 b (cP p4 b) W (parts_val hbz))
      go_wp2_with fail
      go_at_call 68
      refine (HPA.out _).mono ?_
      rintro e w3 ⟨rfl, hb3⟩
      go_wp2
      go_ret2
      exact ⟨by rw [N1.out, E1.out]; rfl, below_step HX.out.bel hb3⟩
    · have N1 := Lib.hid (N0.out.trans (if_neg (by rw [E1.out]; exact h2)))
      have d2 : (p5 == 0) = false := by simp [h2]
      have d3 : (p5 != 0) = true := by simp [h2]
      go_wp2
      go_ret2
      exact ⟨by rw [N1.out, E1.out]; rfl, HX.out.bel⟩
  · have E1 := Lib.hid (E0.out.trans (if_neg h1))
    have N1 := Lib.hid (N0.out.trans (if_neg (by rw [E1.out]; exact h1)))
    have d2 : (se == 0) = false := by simp [h1]
    have d3 : (se != 0) = true := by simp [h1]
    go_wp2
    go_ret2
    exact ⟨by rw [N1.out, E1.out]; rfl, HX.out.bel⟩
theorem two_one (a b : Int) : (#[.int .i64 a, .int .i64 b] : Array Value).all (·.oneCell') = true :=
  Fl.all_one (cs := [.int .i64 a, .int .i64 b]) (by intro u hu; simp at hu; rcases hu with rfl | rfl <;> rfl)
theorem eB_b {b wd : Int} {m : MetaD} {piece : Int} (h : eB b wd m piece = 0) : cscaled b wd m = 0 := by
  unfold eB at h
  by_cases hs : cscaled b wd m = 0
  · exact hs
  · rw [if_neg hs] at h; exact absurd h hs
set_option maxHeartbeats 4000000 in
set_option maxRecDepth 100000 in
theorem Block_any (b wd : Int) (m : MetaD) (cs : List Value) (piece block : Int) (w : World) (hK : KMeta.K w m cs) (hG : GMeta m) :
    Calls Try.prog 35 #[.agg #[.int .i64 b, .int .i64 wd], .agg cs.toArray, .int .i64 piece, .int .i64 block] w fun e w' => e = .returned (.tuple #[.agg #[.int .i64 (cBlk b wd m piece block).1, .int .i64 (cBlk b wd m piece block).2.1], .int .i64 (cBlk b wd m piece block).2.2]) ∧ Below w.heap.size w w' := by
  have HX0 : Hid (∀ V, V = ((w.alloc (.cells #[.int .i64 b, .int .i64 wd] 34)).alloc (.cells cs.toArray 46)).alloc (.cells #[.int .i64 0, .int .i64 0] 69) → Bx w m (w.heap.size + 1) cs V) := Lib.hid (by rintro _ rfl; exact (Bx.second w _ hK).alloc_ _ _ rfl)
  have HS0 : Hid (∀ V, V = ((w.alloc (.cells #[.int .i64 b, .int .i64 wd] 34)).alloc (.cells cs.toArray 46)).alloc (.cells #[.int .i64 0, .int .i64 0] 69) → Sx b wd w.heap.size V) := Lib.hid (by rintro _ rfl; exact (Sx.first w b wd _).alloc_ _ _ rfl)
  have HR0 : Hid (∀ V, V = ((w.alloc (.cells #[.int .i64 b, .int .i64 wd] 34)).alloc (.cells cs.toArray 46)).alloc (.cells #[.int .i64 0, .int .i64 0] 69) → V.heap[w.heap.size + 1 + 1]? = some (.cells #[.int .i64 0, .int .i64 0] 69 (0, 0))) := Lib.hid (by
    rintro _ rfl
    have h := heap_alloc_new ((w.alloc (.cells #[.int .i64 b, .int .i64 wd] 34)).alloc (.cells cs.toArray 46)) (.cells #[.int .i64 0, .int .i64 0] 69)
    rwa [World.size_alloc, World.size_alloc] at h)
  have HG := Lib.hid hG
  clear hK hG
  go_enter Try.func35, Try.ntmps35
  go_upto_region 1 with fail
  obtain ⟨V, hV⟩ : ∃ V, V = ((w.alloc (.cells #[.int .i64 b, .int .i64 wd] 34)).alloc (.cells cs.toArray 46)).alloc (.cells #[.int .i64 0, .int .i64 0] 69) := ⟨_, rfl⟩
  have HX := Aside0.mk (HX0.out _ hV)
  have HS := Aside0.mk (HS0.out _ hV)
  have HR := Aside0.mk (HR0.out _ hV)
  rw [← hV]
  clear hV HX0 HS0 HR0
  have C0 : Hid (cBlk b wd m piece block = if eB b wd m piece = 0 then (if 0 ≤ block ∧ block < nB b wd m piece then (wrap64 (block * b), mn b (wrap64 ((WhereR m piece).2.2.2.1 - wrap64 (block * b))), 0) else (0, 0, 92)) else (0, 0, eB b wd m piece)) := Lib.hid rfl
  have HBA := Lib.hid (fun W (h : KMeta.K W m cs) => Blocks_any b wd m cs piece W h HG.out)
  have HWA := Lib.hid (fun W (h : KMeta.K W m cs) => Where_any m cs piece W h HG.out)
  have hc0 := HS.out.c0
  have hc1 := HS.out.c1
  generalize eB b wd m piece = ee at *
  generalize nB b wd m piece = nn at *
  go_wp2_with ((with_reducible refine Fl.wpList_load rfl 46 (.tmp 5) rfl (⟨w.heap.size + 1, 0, none⟩) ?lx (cs) _ ?lc Try.underlying46 rfl ?li ?_); (case lx => rfl); (case lc => exact HX.out.load); (case li => exact HX.out.info))
  go_at_call 34
  refine (HBA.out _ HX.out.k).mono ?_
  rintro e w1 ⟨rfl, hb1⟩
  clear hc0 hc1 HBA
  replace HX := Aside0.mk (HX.out.below hb1)
  replace HS := Aside0.mk (HS.out.below hb1)
  replace HR := Aside0.mk (blk_below HR.out hb1)
  clear hb1
  by_cases h1 : ee = 0
  · subst h1
    have C1 := Lib.hid (C0.out.trans (if_pos rfl))
    clear C0
    by_cases h2 : block < 0
    · have d2 : decide (block < 0) = true := decide_eq_true h2
      have C2 := Lib.hid (C1.out.trans (if_neg (by omega)))
      have hr6 := setRow_heap _ _ _ (#[.int .i64 0, .int .i64 0]) 69 (0, 0) HR.out
      have hb6 := below_setRowL HX.out.bel (show w.heap.size ≤ w.heap.size + 1 + 1 by omega) (#[.int .i64 0, .int .i64 0])
      go_wp2_with (first | ((with_reducible refine Fl.wpList_build_to rfl 69 _ rfl (#[.int .i64 0, .int .i64 0]) ?bf ?_); (case bf => kernel_rfl)) | ((with_reducible refine wpList_store_row rfl 69 (.tmp 8) (.tmp 33) rfl (w.heap.size + 1 + 1) (#[.int .i64 0, .int .i64 0]) ?sx ?sy 69 _ HR.out ?si rfl ?s1 ?_); (case sx => rfl); (case sy => rfl); (case si => kernel_rfl); (case s1 => exact two_one _ _)))
      refine bodyPost_ret (results_ct rfl _ _ (w.heap.size + 1 + 1) 69 _ (0, 0) _ rfl hr6 Try.underlying69 rfl (by kernel_rfl)) rfl ?_
      exact ⟨by rw [C2.out]; rfl, hb6⟩
    · have d2 : decide (block < 0) = false := decide_eq_false h2
      by_cases h3 : block ≥ nn
      · have d3 : decide (block ≥ nn) = true := decide_eq_true h3
        have C2 := Lib.hid (C1.out.trans (if_neg (by omega)))
        have hr6 := setRow_heap _ _ _ (#[.int .i64 0, .int .i64 0]) 69 (0, 0) HR.out
        have hb6 := below_setRowL HX.out.bel (show w.heap.size ≤ w.heap.size + 1 + 1 by omega) (#[.int .i64 0, .int .i64 0])
        go_wp2_with (first | ((with_reducible refine Fl.wpList_build_to rfl 69 _ rfl (#[.int .i64 0, .int .i64 0]) ?bf ?_); (case bf => kernel_rfl)) | ((with_reducible refine wpList_store_row rfl 69 (.tmp 8) (.tmp 33) rfl (w.heap.size + 1 + 1) (#[.int .i64 0, .int .i64 0]) ?sx ?sy 69 _ HR.out ?si rfl ?s1 ?_); (case sx => rfl); (case sy => rfl); (case si => kernel_rfl); (case s1 => exact two_one _ _)))
        refine bodyPost_ret (results_ct rfl _ _ (w.heap.size + 1 + 1) 69 _ (0, 0) _ rfl hr6 Try.underlying69 rfl (by kernel_rfl)) rfl ?_
        exact ⟨by rw [C2.out]; rfl, hb6⟩
      · have d3 : decide (block ≥ nn) = false := decide_eq_false h3
        have C2 := Lib.hid (C1.out.trans (if_pos (by omega)))
        clear C1
        generalize (WhereR m piece).1 = p1 at *
        generalize (WhereR m piece).2.1 = p2 at *
        generalize (WhereR m piece).2.2.1 = p3 at *
        generalize (WhereR m piece).2.2.2.1 = p4 at *
        generalize (WhereR m piece).2.2.2.2 = p5 at *
        go_wp2_with ((with_reducible refine Fl.wpList_load rfl 46 (.tmp 5) rfl (⟨w.heap.size + 1, 0, none⟩) ?lx (cs) _ ?lc Try.underlying46 rfl ?li ?_); (case lx => rfl); (case lc => exact HX.out.load); (case li => exact HX.out.info))
        go_at_call 23
        refine (HWA.out _ HX.out.k).mono ?_
        rintro e w2 ⟨rfl, hb2⟩
        replace HX := Aside0.mk (HX.out.below hb2)
        replace HS := Aside0.mk (HS.out.below hb2)
        replace HR := Aside0.mk (blk_below HR.out hb2)
        clear hb2
        have HRA := Lib.hid (fun (o : Obj) => blk_alloc HR.out o)
        have HP0 : Hid (∀ V, V = w2.alloc (.cells ([.int .i64 p1, .int .i64 p2, .int .i64 p3, .int .i64 p4] : List Value).toArray 53) → V.heap[w2.heap.size]? = some (.cells ([.int .i64 p1, .int .i64 p2, .int .i64 p3, .int .i64 p4] : List Value).toArray 53)) := Lib.hid (by rintro _ rfl; exact heap_alloc_new _ _)
        have QHX := Lib.hid (HX.out.alloc_ (.cells ([.int .i64 p1, .int .i64 p2, .int .i64 p3, .int .i64 p4] : List Value).toArray 53))
        have QHS := Lib.hid (HS.out.alloc_ (.cells ([.int .i64 p1, .int .i64 p2, .int .i64 p3, .int .i64 p4] : List Value).toArray 53))
        have HI := Lib.hid (show (Try.prog.info? 53).map (·.size) = some ([.int .i64 p1, .int .i64 p2, .int .i64 p3, .int .i64 p4] : List Value).toArray.size by kernel_rfl)
        have HO := Lib.hid (one4 p1 p2 p3 p4)
        go_upto_region 7 with (((with_reducible refine Fl.wpList_store_fresh rfl 53 (.tmp 12) (.tmp 38) rfl 53 _ ([.int .i64 p1, .int .i64 p2, .int .i64 p3, .int .i64 p4]).toArray ?sx ?sy ?si ?so ?s1 ?_); (case sx => rfl); (case sy => rfl); (case si => exact HI.out); (case so => exact rfl); (case s1 => exact Fl.all_one HO.out)))
        obtain ⟨V, h3⟩ : ∃ V, V = w2.alloc (.cells ([.int .i64 p1, .int .i64 p2, .int .i64 p3, .int .i64 p4] : List Value).toArray 53) := ⟨_, rfl⟩
        replace HX := Aside0.mk (QHX.out _ h3)
        replace HS := Aside0.mk (QHS.out _ h3)
        have HP := Aside0.mk (HP0.out _ h3)
        replace HR : Aside0 (V.heap[w.heap.size + 1 + 1]? = some (.cells #[.int .i64 0, .int .i64 0] 69 (0, 0))) := ⟨by rw [h3]; exact HRA.out _⟩
        rw [← h3]
        clear HRA h3 HP0 HI HO QHX QHS
        generalize w2.heap.size = gp at *
        have hc0 := HS.out.c0
        have hp3 : V.cell? ⟨gp, 3, none⟩ = some (.int .i64 p4) := Go.Joins.cell_of_block HP.out 3
        have hr6 := setRow_heap _ _ _ (#[.int .i64 (wrap64 (block * b)), .int .i64 (mn b (wrap64 (p4 - wrap64 (block * b))))]) 69 (0, 0) HR.out
        have hb6 := below_setRowL HX.out.bel (show w.heap.size ≤ w.heap.size + 1 + 1 by omega) (#[.int .i64 (wrap64 (block * b)), .int .i64 (mn b (wrap64 (p4 - wrap64 (block * b))))])
        go_wp2_with (first | ((with_reducible refine Fl.wpList_build_to rfl 69 _ rfl (#[.int .i64 (wrap64 (block * b)), .int .i64 (mn b (wrap64 (p4 - wrap64 (block * b))))]) ?bf ?_); (case bf => kernel_rfl)) | ((with_reducible refine wpList_store_row rfl 69 (.tmp 8) (.tmp 52) rfl (w.heap.size + 1 + 1) (#[.int .i64 (wrap64 (block * b)), .int .i64 (mn b (wrap64 (p4 - wrap64 (block * b))))]) ?sx ?sy 69 _ HR.out ?si rfl ?s1 ?_); (case sx => rfl); (case sy => rfl); (case si => kernel_rfl); (case s1 => exact two_one _ _)))
        all_goals (
          refine bodyPost_ret (results_ct rfl _ _ (w.heap.size + 1 + 1) 69 _ (0, 0) _ rfl hr6 Try.underlying69 rfl (by kernel_rfl)) rfl ?_
          exact ⟨by rw [C2.out]; rfl, hb6⟩)
  · have C1 := Lib.hid (C0.out.trans (if_neg h1))
    have d2 : (ee == 0) = false := by simp [h1]
    have d3 : (ee != 0) = true := by simp [h1]
    have hr6 := setRow_heap _ _ _ (#[.int .i64 0, .int .i64 0]) 69 (0, 0) HR.out
    have hb6 := below_setRowL HX.out.bel (show w.heap.size ≤ w.heap.size + 1 + 1 by omega) (#[.int .i64 0, .int .i64 0])
    go_wp2_with (first | ((with_reducible refine Fl.wpList_build_to rfl 69 _ rfl (#[.int .i64 0, .int .i64 0]) ?bf ?_); (case bf => kernel_rfl)) | ((with_reducible refine wpList_store_row rfl 69 (.tmp 8) (.tmp 24) rfl (w.heap.size + 1 + 1) (#[.int .i64 0, .int .i64 0]) ?sx ?sy 69 _ HR.out ?si rfl ?s1 ?_); (case sx => rfl); (case sy => rfl); (case si => kernel_rfl); (case s1 => exact two_one _ _)))
    refine bodyPost_ret (results_ct rfl _ _ (w.heap.size + 1 + 1) 69 _ (0, 0) _ rfl hr6 Try.underlying69 rfl (by kernel_rfl)) rfl ?_
    exact ⟨by rw [C1.out]; rfl, hb6⟩
end Cr
end Go.Proofs.Ytjeeakhgjcbhaaa
set_option linter.unusedVariables false
set_option linter.unusedSimpArgs false
namespace Go.Proofs.Ytjeeakhgjcbhaaa
open Go.RowKit Go.Proofs.YtjeeakhgjcbhaaaW.PrintWords Go.Proofs.YtjeeakhgjcbhaaaW Go.Proofs.YtjeeakhgjcbhaaaW.PrintMore
namespace Cr
open Wd Vl Mt PCreateBlocks P2
def encRg (p : RgD) : List Value := [.int .i64 p.1, .int .i64 p.2]
theorem encRg_len (p : RgD) : (encRg p).length = 2 := rfl
theorem encRg_one (p : RgD) : ∀ u ∈ encRg p, u.oneCell' = true := by
  intro u hu
  simp [encRg] at hu
  rcases hu with rfl | rfl <;> rfl
/-- A run of bytes that is read or made. -/
def KRg : Kd RgD := Fl.flat encRg 2 encRg_len encRg_one
theorem infoRg : (Try.prog.info? 69).map (fun i => (i.zero, i.size, i.bytes)) = some (some (.agg ((encRg (0, 0)).toArray)), 2, 16) := by kernel_rfl
def rg (n : Nat) (b len : Int) : RgD := (n * b, if len - n * b > b then b else len - n * b)
theorem rgs_eq (b len : Int) : rgs b len = (List.range (cN len b)).map fun n => rg n b len := by unfold rgs fpl; rw [List.map_map]; rfl
theorem eB_sc {b wd : Int} {m : MetaD} {piece : Int} (h : scE b wd ≠ 0) : eB b wd m piece = scE b wd := by
  have : cscaled b wd m = scE b wd := by unfold cscaled; rw [if_neg h]
  unfold eB
  rw [if_neg (by rw [this]; exact h), this]
theorem eB_fault {b wd : Int} {m : MetaD} {piece : Int} (h0 : scE b wd = 0) (h : cfault m ≠ 0) : eB b wd m piece = cfault m := by
  have : cscaled b wd m = cfault m := by unfold cscaled; rw [if_pos h0, if_neg h]
  unfold eB
  rw [if_neg (by rw [this]; exact h), this]
theorem eB_at {b wd : Int} {m : MetaD} {piece : Int} (h0 : scE b wd = 0) (h : cfault m = 0) : eB b wd m piece = if atB 0 11 b m.2.1 = true then (WhereR m piece).2.2.2.2 else 83 := by
  have hi := atB_pl (scE_ok h0).1 (cfault_goodPL h)
  unfold eB cscaled
  rw [if_pos h0, if_pos h]
  by_cases h1 : m.2.1 < b ∨ m.2.1 > b * 1024
  · rw [if_pos h1, if_neg (by decide), if_neg (fun h2 => (hi.1 h2) h1)]
  · rw [if_neg h1, if_pos rfl, if_pos (hi.2 h1)]
theorem cutL_not {b wd : Int} {m : MetaD} {piece : Int} (h : eB b wd m piece ≠ 0) : cutL b wd m piece = [] := by unfold cutL; rw [if_neg h]
theorem _root_.Go.Proofs.Ytjeeakhgjcbhaaa.Mt.Bx.grown {w W W1 : World} {m : MetaD} {g : Nat} {cs : List Value} {row : Option Nat} (h : Bx w m g cs W) (hg : W.grownBy W1 row) (hb : Below w.heap.size w W1) (hn : some g ≠ row) (hk : KMeta.K W1 m cs) : Bx w m g cs W1 := ⟨blk_grown h.bx hg hn, hk, hb⟩
theorem _root_.Go.Proofs.Ytjeeakhgjcbhaaa.Mt.Sx.grown {W W1 : World} {b wd : Int} {g : Nat} {row : Option Nat} (h : Sx b wd g W) (hg : W.grownBy W1 row) (hn : some g ≠ row) : Sx b wd g W1 := ⟨blk_grown h.bx hg hn⟩
theorem tdv {b : Int} (hb : 0 < b) (j : Nat) : (j : Int) * b / b = j := Int.mul_ediv_cancel _ (by omega)
set_option maxHeartbeats 4000000 in
set_option maxRecDepth 100000 in
theorem cut_any (b wd : Int) (m : MetaD) (cs : List Value) (piece : Int) (w : World) (hK : KMeta.K w m cs) (hG : GMeta m) (hpc : piece ≤ 9223372036854775807) :
    Calls Try.prog 66 #[.agg #[.int .i64 b, .int .i64 wd], .agg cs.toArray, .int .i64 piece] w fun e w' => ∃ A c, e = .returned (.tuple #[.slice A (cutL b wd m piece).length c, .int .i64 (eB b wd m piece)]) ∧ KRg.C w' A (cutL b wd m piece).length (cutL b wd m piece) ∧ Below w.heap.size w w' := by
  have HX0 : Hid (∀ V, V = (w.alloc (.cells #[.int .i64 b, .int .i64 wd] 34)).alloc (.cells cs.toArray 46) → Bx w m (w.heap.size + 1) cs V) := Lib.hid (by rintro _ rfl; exact Bx.second w _ hK)
  have HS0 : Hid (∀ V, V = (w.alloc (.cells #[.int .i64 b, .int .i64 wd] 34)).alloc (.cells cs.toArray 46) → Sx b wd w.heap.size V) := Lib.hid (by rintro _ rfl; exact Sx.first w b wd _)
  have HG := Lib.hid hG
  have HK := Aside0.mk hK
  clear hK hG
  go_enter Try.func66, Try.ntmps66
  go_upto_region 1 with fail
  obtain ⟨V, hV⟩ : ∃ V, V = (w.alloc (.cells #[.int .i64 b, .int .i64 wd] 34)).alloc (.cells cs.toArray 46) := ⟨_, rfl⟩
  have HX := Aside0.mk (HX0.out _ hV)
  have HS := Aside0.mk (HS0.out _ hV)
  rw [← hV]
  clear hV HX0 HS0
  have HL : Hid (cutL b wd m piece = if eB b wd m piece = 0 then rgs b (WhereR m piece).2.2.2.1 else []) := Lib.hid rfl
  have HE1 := Lib.hid (eB_sc (b := b) (wd := wd) (m := m) (piece := piece))
  have HE2 := Lib.hid (eB_fault (b := b) (wd := wd) (m := m) (piece := piece))
  have HE3 := Lib.hid (eB_at (b := b) (wd := wd) (m := m) (piece := piece))
  have HOK := Lib.hid (eB_ok (b := b) (wd := wd) (m := m) hpc)
  have HGD := Lib.hid (fun W => torrentref1_Good.calls 10 b wd (scE b wd) W (refGood_val b wd))
  have HFA := Lib.hid (fun W (h : KMeta.K W m cs) => refFault_any m cs W h HG.out)
  have HWA := Lib.hid (fun W (h : KMeta.K W m cs) => refWhere_any m cs piece W h HG.out)
  have hsc := fun h => (scE_ok (b := b) (wd := wd) h).2
  have HSC := Lib.hid hsc
  clear hsc
  have hc0 := HS.out.c0
  have hc1 := HS.out.c1
  generalize scE b wd = se at *
  go_wp2_with fail
  go_at_call 48
  refine (HGD.out _).mono ?_
  rintro e w1 ⟨rfl, hb1⟩
  clear hc0 hc1 HGD
  replace HX := Aside0.mk (HX.out.below hb1)
  replace HS := Aside0.mk (HS.out.below hb1)
  clear hb1
  by_cases h1 : se = 0
  · obtain ⟨b1, b2⟩ := HSC.out h1
    subst h1
    clear HE1 HSC
    go_wp2_with ((with_reducible refine Fl.wpList_load rfl 46 (.tmp 4) rfl (⟨w.heap.size + 1, 0, none⟩) ?lx (cs) _ ?lc Try.underlying46 rfl ?li ?_); (case lx => rfl); (case lc => exact HX.out.load); (case li => exact HX.out.info))
    go_at_call 56
    refine (HFA.out _ HX.out.k).mono ?_
    rintro e w2 ⟨rfl, hb2⟩
    replace HX := Aside0.mk (HX.out.below hb2)
    replace HS := Aside0.mk (HS.out.below hb2)
    clear hb2
    generalize cfault m = fe at *
    by_cases h2 : fe = 0
    · subst h2
      have E0 := Lib.hid (HE3.out (by first | rfl | trivial) (by first | rfl | trivial))
      have HPA := Lib.hid (fun W => torrentref9_pieceLenAt.calls 12 b wd m.2.1 (atB 0 11 b m.2.1) W (lenAt_val wd m.2.1 ⟨b1, b2⟩))
      have hc0 := HS.out.c0
      have hc1 := HS.out.c1
      have hpl := HX.out.pl
      clear HE2 HE3 HFA
      go_wp2_with fail
      go_at_call 87
      refine (HPA.out _).mono ?_
      rintro e w3 ⟨rfl, hb3⟩
      clear hc0 hc1 hpl HPA
      replace HX := Aside0.mk (HX.out.below hb3)
      replace HS := Aside0.mk (HS.out.below hb3)
      clear hb3
      cases hat : atB 0 11 b m.2.1 with
      | false =>
        rw [hat] at E0
        have E1 : Hid (eB b wd m piece = 83) := Lib.hid (E0.out.trans (if_neg (by decide)))
        have L1 : Hid (cutL b wd m piece = []) := Lib.hid (HL.out.trans (if_neg (by rw [E1.out]; decide)))
        clear E0 HL hat HOK
        go_wp2
        go_ret2
        exact ⟨none, 0, by rw [L1.out, E1.out]; rfl, by rw [L1.out]; exact Kd.C_nil _ _, HX.out.bel⟩
      | true =>
        rw [hat] at E0
        have E0' := Lib.hid (E0.out.trans (if_pos rfl))
        rw [← where_ref m piece hpc] at HWA
        clear E0 hat
        generalize (WhereR m piece).1 = p1 at *
        generalize (WhereR m piece).2.1 = p2 at *
        generalize (WhereR m piece).2.2.1 = p3 at *
        generalize (WhereR m piece).2.2.2.1 = p4 at *
        generalize (WhereR m piece).2.2.2.2 = p5 at *
        go_wp2_with ((with_reducible refine Fl.wpList_load rfl 46 (.tmp 4) rfl (⟨w.heap.size + 1, 0, none⟩) ?lx (cs) _ ?lc Try.underlying46 rfl ?li ?_); (case lx => rfl); (case lc => exact HX.out.load); (case li => exact HX.out.info))
        go_at_call 24
        refine (HWA.out _ HX.out.k).mono ?_
        rintro e w4 ⟨rfl, hb4⟩
        replace HX := Aside0.mk (HX.out.below hb4)
        replace HS := Aside0.mk (HS.out.below hb4)
        clear hb4
        have HP0 : Hid (∀ V, V = w4.alloc (.cells ([.int .i64 p1, .int .i64 p2, .int .i64 p3, .int .i64 p4] : List Value).toArray 53) → V.heap[w4.heap.size]? = some (.cells ([.int .i64 p1, .int .i64 p2, .int .i64 p3, .int .i64 p4] : List Value).toArray 53)) := Lib.hid (by rintro _ rfl; exact heap_alloc_new _ _)
        have QHX := Lib.hid (HX.out.alloc_ (.cells ([.int .i64 p1, .int .i64 p2, .int .i64 p3, .int .i64 p4] : List Value).toArray 53))
        have QHS := Lib.hid (HS.out.alloc_ (.cells ([.int .i64 p1, .int .i64 p2, .int .i64 p3, .int .i64 p4] : List Value).toArray 53))
        have HI := Lib.hid (show (Try.prog.info? 53).map (·.size) = some ([.int .i64 p1, .int .i64 p2, .int .i64 p3, .int .i64 p4] : List Value).toArray.size by kernel_rfl)
        have HO := Lib.hid (one4 p1 p2 p3 p4)
        go_upto_region 11 with (((with_reducible refine Fl.wpList_store_fresh rfl 53 (.tmp 11) (.tmp 36) rfl 53 _ ([.int .i64 p1, .int .i64 p2, .int .i64 p3, .int .i64 p4]).toArray ?sx ?sy ?si ?so ?s1 ?_); (case sx => rfl); (case sy => rfl); (case si => exact HI.out); (case so => exact rfl); (case s1 => exact Fl.all_one HO.out)))
        obtain ⟨V, h3⟩ : ∃ V, V = w4.alloc (.cells ([.int .i64 p1, .int .i64 p2, .int .i64 p3, .int .i64 p4] : List Value).toArray 53) := ⟨_, rfl⟩
        replace HX := Aside0.mk (QHX.out _ h3)
        replace HS := Aside0.mk (QHS.out _ h3)
        have HP := Aside0.mk (HP0.out _ h3)
        rw [← h3]
        clear h3 HP0 HI HO QHX QHS
        generalize w4.heap.size = gp at *
        by_cases h5 : p5 = 0
        · have E1 : Hid (eB b wd m piece = 0) := Lib.hid (E0'.out.trans h5)
          obtain ⟨q1, q2, q3⟩ := HOK.out E1.out
          have L1 : Hid (cutL b wd m piece = rgs b p4) := Lib.hid (HL.out.trans (if_pos E1.out))
          subst h5
          clear HL HOK E0' HWA
          obtain ⟨len, hlen⟩ : ∃ len, len = p4 := ⟨_, rfl⟩
          rw [← hlen] at HP L1 q2 q3
          clear hlen
          go_wp2
          go_loopw [13, 14] (fun v a wz => ∃ j : Nat, j ≤ cN len b ∧ a = .int .i64 (j * b) ∧ Aside0 (KRg.R 69 wz w.heap.size (fun _ => True) v ((List.range j).map fun q => rg q b len)) ∧ Aside0 (Bx w m (w.heap.size + 1) cs wz) ∧ Aside0 (Sx b wd w.heap.size wz) ∧ Aside0 (wz.heap[gp]? = some (.cells ([.int .i64 p1, .int .i64 p2, .int .i64 p3, .int .i64 len] : List Value).toArray 53))) (fun v a _ => cN len b - (intOf a / b).toNat)
          case atStart => exact ⟨0, by omega, by simp, ⟨by simpa using Kd.R_nil _ _ _ _ _⟩, HX, HS, HP⟩
          case round =>
            clear HX HS HP
            obtain ⟨j, hj, rfl, HO, HX, HS, HP⟩ := hrel
            have hc0 := HS.out.c0
            have hp3 : wr.cell? ⟨gp, 3, none⟩ = some (.int .i64 len) := Go.Joins.cell_of_block HP.out 3
            have hlt2 := lt_cN (len := len) (show 0 < b by omega) j
            have ha0 : 0 ≤ (j : Int) * b := Int.mul_nonneg (by omega) (by omega)
            have HBP : Hid (0 < b) := Lib.hid (by omega)
            have HA : Hid ((j : Int) * b < len → wrap64 ((j : Int) * b + b) = ((j + 1 : Nat) : Int) * b) := Lib.hid fun h => by
              rw [Int.natCast_add, Int.add_mul]
              unfold wrap64
              omega
            by_cases hjc : j < cN len b
            · have hja := hlt2.1 hjc
              have hcn := (cP_cN q2 q3 q1.1).2
              replace HA := Lib.hid (HA.out hja)
              obtain ⟨a, ha⟩ : ∃ a, a = (j : Int) * b := ⟨_, rfl⟩
              rw [← ha] at hja ha0 HA ⊢
              have HAE := Lib.hid ha
              clear ha
              have b1 : decide (a < len) = true := decide_eq_true hja
              have NX := Lib.hid (Kd.R_ne HO.out HX.out.bx (by decide))
              have NS := Lib.hid (Kd.R_ne HO.out HS.out.bx (by decide))
              have NP := Lib.hid (Kd.R_ne HO.out HP.out (by decide))
              have HLEN : Hid ((((List.range j).map fun q => rg q b len).length + 1) * 16 ≤ 140737488351232) := Lib.hid (by rw [List.length_map, List.length_range]; omega)
              clear hlt2 hcn
              by_cases hbig : len - a > b
              · have b2 : decide (len - a > b) = true := decide_eq_true hbig
                have HT : Hid ((List.range (j + 1)).map (fun q => rg q b len) = ((List.range j).map fun q => rg q b len) ++ [(a, b)]) := Lib.hid (by rw [List.range_succ, List.map_append]; congr 1; show [rg j b len] = _; unfold rg; rw [← HAE.out, if_pos hbig])
                have HA2 : Hid (a + b = ((j + 1 : Nat) : Int) * b) := Lib.hid (by rw [HAE.out, Int.natCast_add, Int.add_mul]; first | omega | simp)
                go_wp2_with (first | ((with_reducible refine Fl.wpList_build_to rfl 69 _ rfl (#[.int .i64 a, .int .i64 (b)]) ?bf ?_); (case bf => kernel_rfl)) | ((with_reducible refine Fl.wpList_lit_one rfl 25 69 (.tmp 62) rfl ((encRg (a, b))).toArray ?tx Try.underlying25 (.agg (encRg (0, 0)).toArray) ?ti ?tp ?ts ?_); (case tx => rfl); (case ti => exact (by kernel_rfl)); (case tp => rfl); (case ts => rfl)) | (at_builtin; go_loud (refine Kd.R_append KRg (w0 := w) w.heap.size rfl (.tmp 59) (.tmp 63) 25 69 (.agg (encRg (0, 0)).toArray) 16 rfl Try.underlying25 infoRg rfl (by decide) (by omega) u13 (((List.range j).map fun q => rg q b len)) ((a, b)) ((encRg (a, b))) (fun _ => True) (fun _ => False) rfl rfl ?aP (fun _ h => h.elim) ?aF ?aO ?aB ?aS ?aL ?_); (case aP => exact rfl); (case aB => exact HX.out.bel); (case aF => exact (fun _ _ => trivial)); (case aO => exact HO.out); (case aS => exact HX.out.bel.size); (case aL => have := HLEN.out; omega); intro v1 wq ho hb hg hat; rw [← HT.out] at ho; have HO1 := Aside0.mk ho; have HB1 := Aside0.mk hb; have HX1 := Aside0.mk (HX.out.grown hg hb NX.out (KMeta.K_below hb HK.out)); have HS1 := Aside0.mk (HS.out.grown hg NS.out); have hc0q := HS1.out.c0; have HP1 := Aside0.mk (blk_grown HP.out hg NP.out)))
                go_roundw
                case rel => exact ⟨j + 1, by omega, by first | exact congrArg (Value.int .i64) HA2.out | exact congrArg (Value.int .i64) HA.out, HO1, HX1, HS1, HP1⟩
                case measure => (simp only [intOf]; first | rw [HA2.out] | rw [HA.out]); rw [HAE.out, tdv HBP.out, tdv HBP.out]; omega
              · have b2 : decide (len - a > b) = false := decide_eq_false hbig
                have HT : Hid ((List.range (j + 1)).map (fun q => rg q b len) = ((List.range j).map fun q => rg q b len) ++ [(a, (len - a))]) := Lib.hid (by rw [List.range_succ, List.map_append]; congr 1; show [rg j b len] = _; unfold rg; rw [← HAE.out, if_neg hbig])
                have HA2 : Hid (a + b = ((j + 1 : Nat) : Int) * b) := Lib.hid (by rw [HAE.out, Int.natCast_add, Int.add_mul]; first | omega | simp)
                go_wp2_with (first | ((with_reducible refine Fl.wpList_build_to rfl 69 _ rfl (#[.int .i64 a, .int .i64 ((len - a))]) ?bf ?_); (case bf => kernel_rfl)) | ((with_reducible refine Fl.wpList_lit_one rfl 25 69 (.tmp 62) rfl ((encRg (a, (len - a)))).toArray ?tx Try.underlying25 (.agg (encRg (0, 0)).toArray) ?ti ?tp ?ts ?_); (case tx => rfl); (case ti => exact (by kernel_rfl)); (case tp => rfl); (case ts => rfl)) | (at_builtin; go_loud (refine Kd.R_append KRg (w0 := w) w.heap.size rfl (.tmp 59) (.tmp 63) 25 69 (.agg (encRg (0, 0)).toArray) 16 rfl Try.underlying25 infoRg rfl (by decide) (by omega) u13 (((List.range j).map fun q => rg q b len)) ((a, (len - a))) ((encRg (a, (len - a)))) (fun _ => True) (fun _ => False) rfl rfl ?aP (fun _ h => h.elim) ?aF ?aO ?aB ?aS ?aL ?_); (case aP => exact rfl); (case aB => exact HX.out.bel); (case aF => exact (fun _ _ => trivial)); (case aO => exact HO.out); (case aS => exact HX.out.bel.size); (case aL => have := HLEN.out; omega); intro v1 wq ho hb hg hat; rw [← HT.out] at ho; have HO1 := Aside0.mk ho; have HB1 := Aside0.mk hb; have HX1 := Aside0.mk (HX.out.grown hg hb NX.out (KMeta.K_below hb HK.out)); have HS1 := Aside0.mk (HS.out.grown hg NS.out); have hc0q := HS1.out.c0; have HP1 := Aside0.mk (blk_grown HP.out hg NP.out)))
                go_roundw
                case rel => exact ⟨j + 1, by omega, by first | exact congrArg (Value.int .i64) HA2.out | exact congrArg (Value.int .i64) HA.out, HO1, HX1, HS1, HP1⟩
                case measure => (simp only [intOf]; first | rw [HA2.out] | rw [HA.out]); rw [HAE.out, tdv HBP.out, tdv HBP.out]; omega
            · have ej : j = cN len b := by omega
              have b1 : decide ((j : Int) * b < len) = false := decide_eq_false (fun h => hjc (hlt2.2 h))
              have L2 : Hid (((List.range j).map fun q => rg q b len) = cutL b wd m piece) := Lib.hid (by rw [L1.out, rgs_eq, ej])
              have ho := HO.out
              rw [L2.out] at ho
              obtain ⟨A, c, e, hc, hC⟩ := Kd.R_reads ho
              subst e
              clear HA hlt2 ej hjc ho L2 L1
              go_wp2
              go_ret2
              exact ⟨A, c, by rw [E1.out]; rfl, hC, HX.out.bel⟩
        · have E1 : Hid (eB b wd m piece = p5) := E0'
          have L1 : Hid (cutL b wd m piece = []) := Lib.hid (HL.out.trans (if_neg (by rw [E1.out]; exact h5)))
          have d2 : (p5 == 0) = false := by simp [h5]
          have d3 : (p5 != 0) = true := by simp [h5]
          clear E0' HL HOK
          go_wp2
          go_ret2
          exact ⟨none, 0, by rw [L1.out, E1.out]; rfl, by rw [L1.out]; exact Kd.C_nil _ _, HX.out.bel⟩
    · have E1 : Hid (eB b wd m piece = fe) := Lib.hid (HE2.out (by first | rfl | trivial) h2)
      have L1 : Hid (cutL b wd m piece = []) := Lib.hid (HL.out.trans (if_neg (by rw [E1.out]; exact h2)))
      have d2 : (fe == 0) = false := by simp [h2]
      have d3 : (fe != 0) = true := by simp [h2]
      clear HL HOK HE2 HE3
      go_wp2
      go_ret2
      exact ⟨none, 0, by rw [L1.out, E1.out]; rfl, by rw [L1.out]; exact Kd.C_nil _ _, HX.out.bel⟩
  · have E1 : Hid (eB b wd m piece = se) := Lib.hid (HE1.out h1)
    have L1 : Hid (cutL b wd m piece = []) := Lib.hid (HL.out.trans (if_neg (by rw [E1.out]; exact h1)))
    have d2 : (se == 0) = false := by simp [h1]
    have d3 : (se != 0) = true := by simp [h1]
    clear HL HOK HE1 HE2 HE3
    go_wp2
    go_ret2
    exact ⟨none, 0, by rw [L1.out, E1.out]; rfl, by rw [L1.out]; exact Kd.C_nil _ _, HX.out.bel⟩
set_option maxHeartbeats 4000000 in
set_option maxRecDepth 100000 in
theorem refBlocks_any (b wd : Int) (m : MetaD) (cs : List Value) (piece : Int) (w : World) (hK : KMeta.K w m cs) (hG : GMeta m) (hpc : piece ≤ 9223372036854775807) :
    Calls Try.prog 33 #[.agg #[.int .i64 b, .int .i64 wd], .agg cs.toArray, .int .i64 piece] w fun e w' => e = .returned (.tuple #[.int .i64 (nB b wd m piece), .int .i64 (eB b wd m piece)]) ∧ Below w.heap.size w w' := by
  have HX0 : Hid (∀ V, V = (w.alloc (.cells #[.int .i64 b, .int .i64 wd] 34)).alloc (.cells cs.toArray 46) → Bx w m (w.heap.size + 1) cs V) := Lib.hid (by rintro _ rfl; exact Bx.second w _ hK)
  have HS0 : Hid (∀ V, V = (w.alloc (.cells #[.int .i64 b, .int .i64 wd] 34)).alloc (.cells cs.toArray 46) → Sx b wd w.heap.size V) := Lib.hid (by rintro _ rfl; exact Sx.first w b wd _)
  have HG := Lib.hid hG
  have HK := Aside0.mk hK
  clear hK hG
  go_enter Try.func33, Try.ntmps33
  go_upto_region 1 with fail
  obtain ⟨V, hV⟩ : ∃ V, V = (w.alloc (.cells #[.int .i64 b, .int .i64 wd] 34)).alloc (.cells cs.toArray 46) := ⟨_, rfl⟩
  have HX := Aside0.mk (HX0.out _ hV)
  have HS := Aside0.mk (HS0.out _ hV)
  rw [← hV]
  clear hV HX0 HS0
  have HCA := Lib.hid (fun W (h : KMeta.K W m cs) => cut_any b wd m cs piece W h HG.out hpc)
  have HNB := Lib.hid (nB_len (b := b) (wd := wd) (m := m) hpc)
  have hc0 := HS.out.c0
  have hc1 := HS.out.c1
  go_wp2_with ((with_reducible refine Fl.wpList_load rfl 46 (.tmp 4) rfl (⟨w.heap.size + 1, 0, none⟩) ?lx (cs) _ ?lc Try.underlying46 rfl ?li ?_); (case lx => rfl); (case lc => exact HX.out.load); (case li => exact HX.out.info))
  go_at_call 66
  refine (HCA.out _ HX.out.k).mono ?_
  rintro e w1 ⟨A, c, rfl, hC, hb1⟩
  clear hc0 hc1 hC HCA
  replace HX := Aside0.mk (HX.out.below hb1)
  replace HS := Aside0.mk (HS.out.below hb1)
  clear hb1
  go_wp2
  go_ret2
  exact ⟨by rw [HNB.out]; rfl, HX.out.bel⟩
set_option maxHeartbeats 4000000 in
set_option maxRecDepth 100000 in
theorem refBlock_any (b wd : Int) (m : MetaD) (cs : List Value) (piece block : Int) (w : World) (hK : KMeta.K w m cs) (hG : GMeta m) (hpc : piece ≤ 9223372036854775807) :
    Calls Try.prog 36 #[.agg #[.int .i64 b, .int .i64 wd], .agg cs.toArray, .int .i64 piece, .int .i64 block] w fun e w' => e = .returned (.tuple #[.agg #[.int .i64 (refBlk b wd m piece block).1, .int .i64 (refBlk b wd m piece block).2.1], .int .i64 (refBlk b wd m piece block).2.2]) ∧ Below w.heap.size w w' := by
  have HX0 : Hid (∀ V, V = ((w.alloc (.cells #[.int .i64 b, .int .i64 wd] 34)).alloc (.cells cs.toArray 46)).alloc (.cells #[.int .i64 0, .int .i64 0] 69) → Bx w m (w.heap.size + 1) cs V) := Lib.hid (by rintro _ rfl; exact (Bx.second w _ hK).alloc_ _ _ rfl)
  have HS0 : Hid (∀ V, V = ((w.alloc (.cells #[.int .i64 b, .int .i64 wd] 34)).alloc (.cells cs.toArray 46)).alloc (.cells #[.int .i64 0, .int .i64 0] 69) → Sx b wd w.heap.size V) := Lib.hid (by rintro _ rfl; exact (Sx.first w b wd _).alloc_ _ _ rfl)
  have HR0 : Hid (∀ V, V = ((w.alloc (.cells #[.int .i64 b, .int .i64 wd] 34)).alloc (.cells cs.toArray 46)).alloc (.cells #[.int .i64 0, .int .i64 0] 69) → V.heap[w.heap.size + 1 + 1]? = some (.cells #[.int .i64 0, .int .i64 0] 69 (0, 0))) := Lib.hid (by
    rintro _ rfl
    have h := heap_alloc_new ((w.alloc (.cells #[.int .i64 b, .int .i64 wd] 34)).alloc (.cells cs.toArray 46)) (.cells #[.int .i64 0, .int .i64 0] 69)
    rwa [World.size_alloc, World.size_alloc] at h)
  have HG := Lib.hid hG
  clear hK hG
  go_enter Try.func36, Try.ntmps36
  go_upto_region 1 with fail
  obtain ⟨V, hV⟩ : ∃ V, V = ((w.alloc (.cells #[.int .i64 b, .int .i64 wd] 34)).alloc (.cells cs.toArray 46)).alloc (.cells #[.int .i64 0, .int .i64 0] 69) := ⟨_, rfl⟩
  have HX := Aside0.mk (HX0.out _ hV)
  have HS := Aside0.mk (HS0.out _ hV)
  have HR := Aside0.mk (HR0.out _ hV)
  rw [← hV]
  clear hV HX0 HS0 HR0
  have C0 : Hid (refBlk b wd m piece block = if eB b wd m piece = 0 then (if 0 ≤ block ∧ block < (cutL b wd m piece).length then (let p := (cutL b wd m piece).getD block.toNat (0, 0); (p.1, p.2, 0)) else (0, 0, 92)) else (0, 0, eB b wd m piece)) := Lib.hid rfl
  have HCA := Lib.hid (fun W (h : KMeta.K W m cs) => cut_any b wd m cs piece W h HG.out hpc)
  have hc0 := HS.out.c0
  have hc1 := HS.out.c1
  generalize eB b wd m piece = ee at *
  generalize cutL b wd m piece = LL at *
  go_wp2_with ((with_reducible refine Fl.wpList_load rfl 46 (.tmp 5) rfl (⟨w.heap.size + 1, 0, none⟩) ?lx (cs) _ ?lc Try.underlying46 rfl ?li ?_); (case lx => rfl); (case lc => exact HX.out.load); (case li => exact HX.out.info))
  go_at_call 66
  refine (HCA.out _ HX.out.k).mono ?_
  rintro e w1 ⟨A, c, rfl, hC, hb1⟩
  clear hc0 hc1 HCA
  have HC := Aside0.mk hC
  clear hC
  replace HX := Aside0.mk (HX.out.below hb1)
  replace HS := Aside0.mk (HS.out.below hb1)
  replace HR := Aside0.mk (blk_below HR.out hb1)
  clear hb1
  by_cases h1 : ee = 0
  · subst h1
    have C1 := Lib.hid (C0.out.trans (if_pos rfl))
    clear C0
    by_cases h2 : block < 0
    · have d2 : decide (block < 0) = true := decide_eq_true h2
      have C2 := Lib.hid (C1.out.trans (if_neg (by omega)))
      have hr6 := setRow_heap _ _ _ (#[.int .i64 0, .int .i64 0]) 69 (0, 0) HR.out
      have hb6 := below_setRowL HX.out.bel (show w.heap.size ≤ w.heap.size + 1 + 1 by omega) (#[.int .i64 0, .int .i64 0])
      go_wp2_with (first | ((with_reducible refine Fl.wpList_build_to rfl 69 _ rfl (#[.int .i64 0, .int .i64 0]) ?bf ?_); (case bf => kernel_rfl)) | ((with_reducible refine wpList_store_row rfl 69 (.tmp 8) (.tmp 31) rfl (w.heap.size + 1 + 1) (#[.int .i64 0, .int .i64 0]) ?sx ?sy 69 _ HR.out ?si rfl ?s1 ?_); (case sx => rfl); (case sy => rfl); (case si => kernel_rfl); (case s1 => exact two_one _ _)))
      refine bodyPost_ret (results_ct rfl _ _ (w.heap.size + 1 + 1) 69 _ (0, 0) _ rfl hr6 Try.underlying69 rfl (by kernel_rfl)) rfl ?_
      exact ⟨by rw [C2.out]; rfl, hb6⟩
    · have d2 : decide (block < 0) = false := decide_eq_false h2
      by_cases h3 : block ≥ LL.length
      · have d3 : decide (block ≥ (LL.length : Int)) = true := decide_eq_true h3
        have C2 := Lib.hid (C1.out.trans (if_neg (by omega)))
        have hr6 := setRow_heap _ _ _ (#[.int .i64 0, .int .i64 0]) 69 (0, 0) HR.out
        have hb6 := below_setRowL HX.out.bel (show w.heap.size ≤ w.heap.size + 1 + 1 by omega) (#[.int .i64 0, .int .i64 0])
        go_wp2_with (first | ((with_reducible refine Fl.wpList_build_to rfl 69 _ rfl (#[.int .i64 0, .int .i64 0]) ?bf ?_); (case bf => kernel_rfl)) | ((with_reducible refine wpList_store_row rfl 69 (.tmp 8) (.tmp 31) rfl (w.heap.size + 1 + 1) (#[.int .i64 0, .int .i64 0]) ?sx ?sy 69 _ HR.out ?si rfl ?s1 ?_); (case sx => rfl); (case sy => rfl); (case si => kernel_rfl); (case s1 => exact two_one _ _)))
        refine bodyPost_ret (results_ct rfl _ _ (w.heap.size + 1 + 1) 69 _ (0, 0) _ rfl hr6 Try.underlying69 rfl (by kernel_rfl)) rfl ?_
        exact ⟨by rw [C2.out]; rfl, hb6⟩
      · have d3 : decide (block ≥ (LL.length : Int)) = false := decide_eq_false h3
        obtain ⟨k, rfl⟩ : ∃ k : Nat, block = k := ⟨block.toNat, by omega⟩
        have hlt : k < LL.length := by omega
        have hlt' : (k : Int) < LL.length := by omega
        have e1 := C1.out.trans (if_pos (by omega))
        rw [Int.toNat_natCast] at e1
        obtain ⟨ad, e0, hc⟩ := Fl.at_flat (0, 0) HC.out k hlt
        subst e0
        have HY : Hid (∀ j u, (encRg (LL.getD k (0, 0)))[j]? = some u → w1.cell? ((ad.add (k * 2)).add j) = some u) := Lib.hid fun j u hj => by rw [Go.Deep.add_add]; exact hc j u hj
        have E1 := Lib.hid e1
        clear e1 hc C1
        generalize LL.getD k (0, 0) = p at *
        have hr6 := setRow_heap _ _ _ (encRg p).toArray 69 (0, 0) HR.out
        have hb6 := below_setRowL HX.out.bel (show w.heap.size ≤ w.heap.size + 1 + 1 by omega) (encRg p).toArray
        go_wp2_with (first | ((with_reducible refine Fl.wpList_load rfl 69 (.tmp 34) rfl (ad.add (k * 2)) ?lx (encRg p) _ ?lc Try.underlying69 rfl ?li ?_); (case lx => rfl); (case lc => exact HY.out); (case li => exact (by kernel_rfl))) | ((with_reducible refine wpList_store_row rfl 69 (.tmp 8) (.tmp 35) rfl (w.heap.size + 1 + 1) (encRg p).toArray ?sx ?sy 69 _ HR.out ?si rfl ?s1 ?_); (case sx => rfl); (case sy => rfl); (case si => kernel_rfl); (case s1 => exact two_one _ _)))
        all_goals (
          refine bodyPost_ret (results_ct rfl _ _ (w.heap.size + 1 + 1) 69 _ (0, 0) _ rfl hr6 Try.underlying69 rfl (by kernel_rfl)) rfl ?_
          exact ⟨by rw [E1.out]; rfl, hb6⟩)
  · have C1 := Lib.hid (C0.out.trans (if_neg h1))
    have d2 : (ee == 0) = false := by simp [h1]
    have d3 : (ee != 0) = true := by simp [h1]
    have hr6 := setRow_heap _ _ _ (#[.int .i64 0, .int .i64 0]) 69 (0, 0) HR.out
    have hb6 := below_setRowL HX.out.bel (show w.heap.size ≤ w.heap.size + 1 + 1 by omega) (#[.int .i64 0, .int .i64 0])
    go_wp2_with (first | ((with_reducible refine Fl.wpList_build_to rfl 69 _ rfl (#[.int .i64 0, .int .i64 0]) ?bf ?_); (case bf => kernel_rfl)) | ((with_reducible refine wpList_store_row rfl 69 (.tmp 8) (.tmp 21) rfl (w.heap.size + 1 + 1) (#[.int .i64 0, .int .i64 0]) ?sx ?sy 69 _ HR.out ?si rfl ?s1 ?_); (case sx => rfl); (case sy => rfl); (case si => kernel_rfl); (case s1 => exact two_one _ _)))
    refine bodyPost_ret (results_ct rfl _ _ (w.heap.size + 1 + 1) 69 _ (0, 0) _ rfl hr6 Try.underlying69 rfl (by kernel_rfl)) rfl ?_
    exact ⟨by rw [C1.out]; rfl, hb6⟩
end Cr
end Go.Proofs.Ytjeeakhgjcbhaaa
set_option linter.unusedVariables false
set_option linter.unusedSimpArgs false
namespace Go.Proofs.Ytjeeakhgjcbhaaa
open Go.RowKit Go.Proofs.YtjeeakhgjcbhaaaW.PrintWords Go.Proofs.YtjeeakhgjcbhaaaW Go.Proofs.YtjeeakhgjcbhaaaW.PrintMore
namespace Cr
open Wd Vl Mt PCreateBlocks P2
attribute [local go_sem] max2_int min2_int max_two min_two max_three min_three max_four min_four
theorem f1_of {w : World} {f : FileD} {cs : List Value} (h : KFile.K w f cs) : cs[1]? = some (.int .i64 f.2.1) := by
  obtain ⟨P, p, MM, q, rfl, _⟩ := file_open h
  rfl
set_option maxHeartbeats 4000000 in
set_option maxRecDepth 100000 in
theorem cPlaces_any (m : MetaD) (cs : List Value) (w : World) (hK : KMeta.K w m cs) (hG : GMeta m) (hf : cfault m = 0) :
    Calls Try.prog 59 #[.agg cs.toArray] w fun e w' => ∃ A c, e = .returned (.slice A (pls m.2.1 m.2.2.1 0).length c) ∧ KPl.C w' A (pls m.2.1 m.2.2.1 0).length (pls m.2.1 m.2.2.1 0) ∧ Below w.heap.size w w' := by
  have HX0 := Aside0.mk (Bx.first w hK)
  have HK := Aside0.mk hK
  obtain ⟨AF, cF, AL, cL, AI, cI, AT, cT, e0, hF, _⟩ := meta_open hK
  have q1 : m.2.2.1.length * 88 ≤ 140737488351232 := hG.2.1.1
  obtain ⟨⟨p1, p2⟩, _, _, hL, _, hT⟩ := cfault_ok hf
  have HF := Aside0.mk hF
  have HLO := Lib.hid hL
  have HTO := Lib.hid hT
  have hpl : m.2.1 ≠ 0 := by omega
  have HC2 : Hid (∀ (g : Nat) (W : World), Bx w m g cs W → W.cell? ⟨g, 2, none⟩ = some (.slice AF m.2.2.1.length cF)) := Lib.hid fun g W h => h.load 2 _ (by rw [e0]; rfl)
  clear hF hK hG hf hL hT e0
  have HX := HX0
  clear HX0
  go_enter Try.func59, Try.ntmps59
  have hx2 := HC2.out _ _ HX.out
  go_wp2
  go_loopw [3, 11] (fun v i wz => ∃ k : Nat, k ≤ m.2.2.1.length ∧ i = .int .i64 k ∧ Aside0 (KPl.R 53 wz w.heap.size (fun _ => True) v (pls m.2.1 (m.2.2.1.take k) 0)) ∧ Aside0 (Bx w m w.heap.size cs wz)) (fun v i _ => m.2.2.1.length - (intOf i).toNat)
  case atStart => exact ⟨0, by omega, rfl, ⟨Kd.R_nil _ _ _ _ _⟩, HX⟩
  case round =>
    clear HX hx2
    obtain ⟨k, hk, rfl, HO, HX⟩ := hrel
    by_cases hlt : k < m.2.2.1.length
    · have hmem : m.2.2.1.getD k f0 ∈ m.2.2.1 := nth_mem f0 m.2.2.1 k hlt
      have htk := pls_take m.2.1 m.2.2.1 0 k hlt
      have hle := Nat.le_trans (pls_le m.2.1 m.2.2.1 (k + 1) 0) HTO.out
      rw [htk, List.length_append, fpl_len] at hle
      rw [Int.zero_add] at htk
      obtain ⟨ad, fcs, e0, hl35, hfk, hcs⟩ := at_file HF.out k hlt
      subst e0
      change KFile.K w (m.2.2.1.getD k f0) fcs at hfk
      have hlen := HLO.out _ hmem
      generalize m.2.2.1.getD k f0 = f at *
      have HY : Hid (∀ j u, fcs[j]? = some u → wr.cell? ((ad.add (k * 35)).add j) = some u) := Lib.hid fun j u hj => by
        rw [Go.Deep.add_add]
        exact cell_stay HX.out.bel (hcs j u hj)
      have HKF := Aside0.mk hfk
      have HL35 := Lib.hid hl35
      have HTK := Lib.hid htk
      have HSF := Lib.hid ((show zF.size = 35 from by kernel_rfl).trans (show 35 = fcs.toArray.size by rw [List.size_toArray]; exact hl35.symm))
      have HS1 := Lib.hid (show (Try.prog.info? 93).map (·.size) = some fcs.toArray.size by rw [List.size_toArray]; exact sizeF hl35)
      have HON := Lib.hid (KFile.K_one hfk)
      clear hmem htk hfk hcs hl35
      go_upto_region 5 with (first | ((with_reducible refine Fl.wpList_load rfl 93 (.tmp 14) rfl (ad.add (k * 35)) ?lx (fcs) _ ?lc Try.underlying93 rfl ?li ?_); (case lx => rfl); (case lc => exact HY.out); (case li => exact (sizeF HL35.out))) | ((with_reducible refine Fl.wpList_store_fresh rfl 93 (.tmp 5) (.tmp 15) rfl 93 _ (fcs).toArray ?sx ?sy ?si ?so ?s1 ?_); (case sx => rfl); (case sy => rfl); (case si => exact HS1.out); (case so => exact HSF.out); (case s1 => exact Fl.all_one HON.out)))
      have hgf := heap_alloc_new wr (.cells fcs.toArray 93)
      have hba := below_alloc (Below.refl wr.heap.size wr) (.cells fcs.toArray 93)
      replace HX := Aside0.mk (HX.out.below hba)
      replace HO := Aside0.mk (Kd.R_below HO.out hba)
      clear hba HY
      generalize wr.alloc (.cells fcs.toArray 93) = wf at *
      generalize wr.heap.size = gf at *
      have HFF := Aside0.mk hgf
      clear hgf
      refine PrintLast.start_ (n := 5) (S := fun w' => Below wf.heap.size wf w') (ds := []) #[false, false, false, false, false] (by kernel_rfl) rfl rfl (below_drew1 (Below.refl _ _)) (fun hHeld => ?_)
      generalize wf.drew = W0 at *
      refine PrintLast.pure_ (i := 4) (N := some 20) (v := ?_) (a' := ?_) #[false, false, false, false, true] rfl rfl (by kernel_rfl) (fun _ _ _ h => h) (Or.inl ⟨by rfl, ?_⟩) ?_ ?_
      rotate_left
      · intro w'
        go_simp
        with_reducible rfl
      rotate_left
      · simp only [Act.put, List.setIfInBounds_toArray, List.set_cons_zero, List.set_cons_succ]
        rfl
      refine PrintLast.take_ (i := 0) (N := some 16) (v := .agg cs.toArray) (a' := ?_) #[true, false, false, false, true] rfl rfl (by kernel_rfl) (fun _ _ _ h => h) (Or.inl ⟨by rfl, ?_⟩) hHeld ?_ ?_
      skip
      · intro w' s0
        exact Fl.exec_load (ty := 46) (x := .tmp 1) (ad := ⟨w.heap.size, 0, none⟩) (cs := cs.toArray) (by rfl) (by rfl) (Fl.run_load (cs := cs) (fun j u hj => cell_stay s0 (HX.out.load j u hj)) Try.underlying46 rfl HX.out.info)
      rotate_left
      · simp only [Act.put, List.setIfInBounds_toArray, List.set_cons_zero, List.set_cons_succ]
        rfl
      refine PrintLast.take_ (i := 2) (N := some 18) (v := .agg fcs.toArray) (a' := ?_) #[true, false, true, false, true] rfl rfl (by kernel_rfl) (fun _ _ _ h => h) (Or.inl ⟨by rfl, ?_⟩) hHeld ?_ ?_
      skip
      · intro w' s0
        exact Fl.exec_load (ty := 93) (x := .tmp 5) (ad := ⟨gf, 0, none⟩) (cs := fcs.toArray) (by rfl) (by rfl) (Fl.run_load (cs := fcs) (fun j u hj => cell_stay s0 (by rw [Go.WideShapes.add_plain, Go.Joins.cell_of_block HFF.out, List.getElem?_toArray, Nat.zero_add]; exact hj)) Try.underlying93 rfl (sizeF HL35.out))
      rotate_left
      · simp only [Act.put, List.setIfInBounds_toArray, List.set_cons_zero, List.set_cons_succ]
        rfl
      refine PrintLast.one_ (i := 1) (N := some 17) #[true, true, true, false, true] rfl rfl (by kernel_rfl) (by decide) (fun K hK => ?_)
      refine PrintLast.goes_ Try.func55 (by kernel_rfl) rfl #[.agg cs.toArray] (by rfl) rfl rfl (by simp only [List.map_toArray, List.map_cons, List.map_nil]; rfl) ?_
      refine (pieces_any m _ _ (KMeta.K_below hHeld HX.out.k)).mono ?_
      rintro e W1 ⟨rfl, hpc, hst⟩
      have hst1 := below_step hHeld hst
      refine ⟨_, rfl, ?_⟩
      refine hK.out _ _ hst1 (fun hHeld => ?_)
      clear hK K
      refine PrintLast.norm_ (a' := ?_) ?_ ?_
      rotate_left
      · show Act.put _ (some 17) _ = _
        simp only [Act.put, List.setIfInBounds_toArray, List.set_cons_zero, List.set_cons_succ]
        rfl
      clear hst
      obtain ⟨gq, hgq⟩ : ∃ gp, gp = W0.heap.size := ⟨_, rfl⟩
      rw [← hgq] at hpc ⊢
      clear hgq
      refine PrintLast.one_ (i := 3) (N := some 19) #[true, true, true, true, true] rfl rfl (by kernel_rfl) (by decide) (fun K hK => ?_)
      refine PrintLast.call_ 83 #[.agg fcs.toArray, .pointer (some ⟨gq, 0, none⟩)] (by rfl) rfl ?_ ?_
      · have he := PrintLast.enters_ (P := Try.prog) Try.func83 (by kernel_rfl) rfl #[.agg fcs.toArray, .pointer (some ⟨gq, 0, none⟩)] W1
        unfold execOp
        simp [resolve, Deferred.ofValue, invoke, Act.eval, he]
      refine (pieces1_any f _ gq m.2.1 _ (KFile.K_below (below_step HX.out.bel hHeld) HKF.out) hpc hpl).mono ?_
      rintro e W2 ⟨rfl, hst⟩
      have hst2 := below_step hHeld hst
      refine ⟨_, rfl, ?_⟩
      refine hK.out _ _ hst2 (fun hHeld => ?_)
      clear hK K
      refine PrintLast.norm_ (a' := ?_) ?_ ?_
      rotate_left
      · show Act.put _ (some 19) _ = _
        simp only [Act.put, List.setIfInBounds_toArray, List.set_cons_zero, List.set_cons_succ]
        rfl
      clear hst
      refine PrintLast.done_ (by kernel_rfl) ?_
      replace HX := Aside0.mk (HX.out.below hHeld)
      replace HO := Aside0.mk (Kd.R_below HO.out hHeld)
      replace HFF := Aside0.mk (blk_below HFF.out hHeld)
      have HF1V := Lib.hid (f1_of HKF.out)
      clear hHeld hpc hst1 hst2 HSF HS1 HON
      generalize f.2.1 = len at *
      rw [(cP_cN hlen.1 hlen.2 p1).1]
      obtain ⟨pl, hplE⟩ : ∃ pl, pl = m.2.1 := ⟨_, rfl⟩
      have HPE := Lib.hid hplE
      have HMK : Hid (∀ j : Nat, j < cN len pl → ((k : Int), (j : Int), wrap64 ((j : Int) * pl), mn pl (wrap64 (len - wrap64 ((j : Int) * pl)))) = mkP k j pl len) := Lib.hid fun j h => (mkP_eq (k : Int) ⟨by omega, by omega⟩ hlen (by rw [hplE] at h; rw [hplE]; exact h)).1
      obtain ⟨L, hL⟩ : ∃ L, L = pls m.2.1 (m.2.2.1.take k) 0 := ⟨_, rfl⟩
      rw [← hL] at HO HTK hle
      rw [← hplE] at HTK hle
      rw [← hplE]
      have hpl64 : 64 ≤ pl ∧ pl ≤ 16777216 := by omega
      clear hL hplE
      go_wp2
      go_loopw [3, 20] (fun v n wz => ∃ j : Nat, j ≤ cN len pl ∧ n = .int .i64 j ∧ Aside0 (KPl.R 53 wz w.heap.size (fun _ => True) v (L ++ (List.range j).map fun q => mkP k q pl len)) ∧ Aside0 (Bx w m w.heap.size cs wz) ∧ Aside0 (wz.heap[gf]? = some (.cells fcs.toArray 93))) (fun v n _ => cN len pl - (intOf n).toNat)
      case atStart => exact ⟨0, by omega, rfl, ⟨by simpa using HO.out⟩, HX, HFF⟩
      case round =>
        clear HO HX HFF
        obtain ⟨j, hj, rfl, HO, HX, HFF⟩ := hrel
        have hx1 := HX.out.pl
        rw [← HPE.out] at hx1
        have hy1 : wr.cell? ⟨gf, 1, none⟩ = some (.int .i64 len) := (Go.Joins.cell_of_block HFF.out 1).trans (by rw [List.getElem?_toArray]; exact HF1V.out)
        by_cases hjc : j < cN len pl
        · have NX := Lib.hid (Kd.R_ne HO.out HX.out.bx (by decide))
          have NF := Lib.hid (Kd.R_ne HO.out HFF.out (by decide))
          have HLEN : Hid (((L ++ (List.range j).map fun q => mkP k q pl len).length + 1) * 32 ≤ 140737488351232) := Lib.hid (by rw [List.length_append, List.length_map, List.length_range]; omega)
          have HT : Hid (L ++ (List.range (j + 1)).map (fun q => mkP k q pl len) = (L ++ (List.range j).map fun q => mkP k q pl len) ++ [((k : Int), (j : Int), wrap64 ((j : Int) * pl), (mn pl (wrap64 (len - wrap64 ((j : Int) * pl)))))]) := Lib.hid (by rw [List.range_succ, List.map_append, ← List.append_assoc]; congr 1; show [mkP k j pl len] = _; rw [HMK.out j hjc])
          go_wp2_with (first | ((with_reducible refine Fl.wpList_build_to rfl 53 _ rfl (#[.int .i64 (k : Int), .int .i64 (j : Int), .int .i64 (wrap64 ((j : Int) * pl)), .int .i64 (mn pl (wrap64 (len - wrap64 ((j : Int) * pl))))]) ?bf ?_); (case bf => kernel_rfl)) | ((with_reducible refine Fl.wpList_lit_one rfl 101 53 (.tmp 38) rfl (encPl ((k : Int), (j : Int), wrap64 ((j : Int) * pl), (mn pl (wrap64 (len - wrap64 ((j : Int) * pl)))))).toArray ?tx Try.underlying101 (.agg (encPl (0, 0, 0, 0)).toArray) ?ti ?tp ?ts ?_); (case tx => rfl); (case ti => exact (by kernel_rfl)); (case tp => rfl); (case ts => rfl)) | (at_builtin; go_loud (refine Kd.R_append KPl (w0 := w) w.heap.size rfl (.tmp 27) (.tmp 39) 101 53 (.agg (encPl (0, 0, 0, 0)).toArray) 32 rfl Try.underlying101 infoPl rfl (by decide) (by omega) u3 ((L ++ (List.range j).map fun q => mkP k q pl len)) (((k : Int), (j : Int), wrap64 ((j : Int) * pl), (mn pl (wrap64 (len - wrap64 ((j : Int) * pl)))))) (encPl ((k : Int), (j : Int), wrap64 ((j : Int) * pl), (mn pl (wrap64 (len - wrap64 ((j : Int) * pl)))))) (fun _ => True) (fun _ => False) rfl rfl ?aP (fun _ h => h.elim) ?aF ?aO ?aB ?aS ?aL ?_); (case aP => exact rfl); (case aB => exact HX.out.bel); (case aF => exact (fun _ _ => trivial)); (case aO => exact HO.out); (case aS => exact HX.out.bel.size); (case aL => have := HLEN.out; omega); intro v1 wq ho hb hg hat; rw [← HT.out] at ho; have HO1 := Aside0.mk ho; have HX1 := Aside0.mk (HX.out.grown hg hb NX.out (KMeta.K_below hb HK.out)); have HF1 := Aside0.mk (blk_grown HFF.out hg NF.out)))
          go_roundw
          case rel => exact ⟨j + 1, by omega, by go_num, HO1, HX1, HF1⟩
          case measure => simp [intOf]; omega
        · have ej : j = cN len pl := by omega
          have b1 : decide (j < cN len pl) = false := decide_eq_false hjc
          have HO2 : Aside0 (KPl.R 53 wr w.heap.size (fun _ => True) u3 (pls m.2.1 (m.2.2.1.take (k + 1)) 0)) := ⟨by rw [← HPE.out, HTK.out]; unfold fpl; rw [← ej]; exact HO.out⟩
          clear hj
          clear ej
          go_wp2
          go_roundw
          case rel => exact ⟨k + 1, by omega, by go_num, HO2, HX⟩
          case measure => simp [intOf]; omega
    · have ek : k = m.2.2.1.length := by omega
      subst ek
      have ho := HO.out
      rw [List.take_length] at ho
      obtain ⟨A, c, e, hc, hC⟩ := Kd.R_reads ho
      subst e
      go_wp2
      go_ret
      exact ⟨A, c, rfl, hC, HX.out.bel⟩
end Cr
end Go.Proofs.Ytjeeakhgjcbhaaa
set_option linter.unusedVariables false
set_option linter.unusedSimpArgs false
namespace Go.Proofs.Ytjeeakhgjcbhaaa
open Go.RowKit Go.Proofs.YtjeeakhgjcbhaaaW.PrintWords
namespace Sa
open Wd
theorem toList_inj {a b : ByteArray} (h : a.toList = b.toList) : a = b := by
  rw [ByteArray.toList_eq, ByteArray.toList_eq] at h
  cases a; cases b; congr; exact Array.toList_inj.1 h
theorem infoStr : (Try.prog.info? 9).map (fun i => (i.zero, i.size, i.bytes)) = some (some (.string ⟨#[]⟩), 1, 16) := by kernel_rfl
theorem infoU8 : (Try.prog.info? 5).map (fun i => (i.zero, i.size, i.bytes)) = some (some (.int .u8 0), 1, 1) := by kernel_rfl
set_option maxHeartbeats 2000000 in
set_option maxRecDepth 100000 in
/-- slices.Clone[[]byte,byte]: a copy in memory of its own. -/
theorem cloneB_any (A : Option Addr) (c : Nat) (xs : List Int) (w : World) (hr : (Kd.int .u8).C w A xs.length xs) (hl : xs.length * 1 ≤ 140737488351232) :
    Calls Try.prog 72 #[.slice A xs.length c] w fun e w' => ∃ v, e = .returned v ∧ (Kd.int .u8).R 5 w' w.heap.size (fun _ => True) v xs ∧ Below w.heap.size w w' := by
  have q1 : ∀ (w : World) (a : Option Addr) (n c n' c' : Nat), (binOp .eql 103 (.slice a n c) (.slice none n' c')).run Try.prog w = .ok (.bool a.isNone) w := fun w a n c n' c' => Lib.run_eql_slice_nil w _ _ a n c n' c' Try.underlying103
  have HR := Aside0.mk hr
  have HL := Lib.hid hl
  clear hr hl
  cases A with
  | none =>
    have h0 : xs = [] := by
      rcases Nat.eq_zero_or_pos xs.length with h0 | h0
      · exact List.eq_nil_of_length_eq_zero h0
      · obtain ⟨ad, h, _⟩ := HR.out.2.2 h0
        cases h
    subst h0
    go_enter Try.func72, Try.ntmps72
    go_wp2
    go_ret
    exact ⟨_, rfl, Kd.R_nil _ _ _ _ _, Below.refl _ _⟩
  | some ad =>
    have HO : Aside0 ((Kd.int .u8).R 5 (w.alloc (.cells #[] 5)) w.heap.size (fun _ => True) (.slice (some ⟨w.heap.size, 0, none⟩) 0 0) ([] : List Int)) := ⟨⟨fun _ _ => trivial, [], World.ownsRow_made w #[] 0 (Nat.le_refl _) (Nat.zero_le _) rfl, Reps.none _ _⟩⟩
    have HR2 := Aside0.mk (Kd.C_alloc HR.out (.cells #[] 5))
    have HB := Aside0.mk (below_alloc (Below.refl w.heap.size w) (.cells #[] 5))
    have HS : Hid (w.heap.size ≤ (w.alloc (.cells #[] 5)).heap.size) := Lib.hid HB.out.size
    go_enter Try.func72, Try.ntmps72
    go_wp2_with (at_builtin; refine Kd.R_append_rows (Kd.int .u8) (w0 := w) w.heap.size rfl (.tmp 5) (.tmp 6) 103 5 (.int .u8 0) 1 rfl Try.underlying103 infoU8 rfl (by decide) (by omega) (.slice (some ⟨w.heap.size, 0, none⟩) 0 0) ([] : List Int) xs (some ad) xs.length c (fun _ => True) (fun _ => False) rfl rfl ?aO ?aR (fun _ _ h => h) (fun _ h => h.elim) ?aF ?aB ?aS ?aL ?_; (case aR => exact HR2.out); (case aB => exact HB.out); (case aF => exact (fun _ _ => trivial)); (case aO => exact HO.out); (case aS => exact HS.out); (case aL => have := HL.out; simp; omega); intro v1 w2 ho hb hg hat)
    go_ret
    exact ⟨v1, rfl, by simpa using ho, hb⟩
set_option maxHeartbeats 2000000 in
set_option maxRecDepth 100000 in
/-- slices.Clone[[]string,string]: a copy in memory of its own. -/
theorem cloneS_any (A : Option Addr) (c : Nat) (xs : List ByteArray) (w : World) (hr : (Kd.string).C w A xs.length xs) (hl : xs.length * 16 ≤ 140737488351232) :
    Calls Try.prog 62 #[.slice A xs.length c] w fun e w' => ∃ v, e = .returned v ∧ (Kd.string).R 9 w' w.heap.size (fun _ => True) v xs ∧ Below w.heap.size w w' := by
  have q1 : ∀ (w : World) (a : Option Addr) (n c n' c' : Nat), (binOp .eql 24 (.slice a n c) (.slice none n' c')).run Try.prog w = .ok (.bool a.isNone) w := fun w a n c n' c' => Lib.run_eql_slice_nil w _ _ a n c n' c' Try.underlying24
  have HR := Aside0.mk hr
  have HL := Lib.hid hl
  clear hr hl
  cases A with
  | none =>
    have h0 : xs = [] := by
      rcases Nat.eq_zero_or_pos xs.length with h0 | h0
      · exact List.eq_nil_of_length_eq_zero h0
      · obtain ⟨ad, h, _⟩ := HR.out.2.2 h0
        cases h
    subst h0
    go_enter Try.func62, Try.ntmps62
    go_wp2
    go_ret
    exact ⟨_, rfl, Kd.R_nil _ _ _ _ _, Below.refl _ _⟩
  | some ad =>
    have HO : Aside0 ((Kd.string).R 9 (w.alloc (.cells #[] 9)) w.heap.size (fun _ => True) (.slice (some ⟨w.heap.size, 0, none⟩) 0 0) ([] : List ByteArray)) := ⟨⟨fun _ _ => trivial, [], World.ownsRow_made w #[] 0 (Nat.le_refl _) (Nat.zero_le _) rfl, Reps.none _ _⟩⟩
    have HR2 := Aside0.mk (Kd.C_alloc HR.out (.cells #[] 9))
    have HB := Aside0.mk (below_alloc (Below.refl w.heap.size w) (.cells #[] 9))
    have HS : Hid (w.heap.size ≤ (w.alloc (.cells #[] 9)).heap.size) := Lib.hid HB.out.size
    go_enter Try.func62, Try.ntmps62
    go_wp2_with (at_builtin; refine Kd.R_append_rows (Kd.string) (w0 := w) w.heap.size rfl (.tmp 5) (.tmp 6) 24 9 (.string ⟨#[]⟩) 16 rfl Try.underlying24 infoStr rfl (by decide) (by omega) (.slice (some ⟨w.heap.size, 0, none⟩) 0 0) ([] : List ByteArray) xs (some ad) xs.length c (fun _ => True) (fun _ => False) rfl rfl ?aO ?aR (fun _ _ h => h) (fun _ h => h.elim) ?aF ?aB ?aS ?aL ?_; (case aR => exact HR2.out); (case aB => exact HB.out); (case aF => exact (fun _ _ => trivial)); (case aO => exact HO.out); (case aS => exact HS.out); (case aL => have := HL.out; simp; omega); intro v1 w2 ho hb hg hat)
    go_ret
    exact ⟨v1, rfl, by simpa using ho, hb⟩
set_option maxHeartbeats 2000000 in
set_option maxRecDepth 100000 in
/-- slices.Equal at []string. -/
theorem equalS_any (A0 : Option Addr) (c0 : Nat) (xs : List ByteArray) (A1 : Option Addr) (c1 : Nat) (ys : List ByteArray) (w : World) (hr0 : Kd.string.C w A0 xs.length xs) (hr1 : Kd.string.C w A1 ys.length ys) :
    Calls Try.prog 89 #[.slice A0 xs.length c0, .slice A1 ys.length c1] w fun e w' => e = .returned (.bool (decide (xs = ys))) ∧ ∃ q, w' = w.drewN q := by
  have l0 : xs.length ≤ 9223372036854775807 := hr0.2.1
  have l1 : ys.length ≤ 9223372036854775807 := hr1.2.1
  have HR0 := Aside0.mk hr0
  have HR1 := Aside0.mk hr1
  clear hr0 hr1
  by_cases hl : xs.length = ys.length
  · have b1 : ((xs.length : Int) == (ys.length : Int)) = true := by simp [hl]
    have b2 : ((xs.length : Int) != (ys.length : Int)) = false := by simp [hl]
    have b3 : (xs.length == ys.length) = true := by simp [hl]
    have HL := Lib.hid hl
    have hle : xs.length ≤ ys.length := by omega
    clear hl
    go_enter Try.func89, Try.ntmps89
    go_wp2
    go_loopw [13] (fun i wz => ∃ k q : Nat, k ≤ xs.length ∧ i = .int .i64 k ∧ Hid (xs.take k = ys.take k) ∧ wz = w.drewN q) (fun i _ => xs.length - (intOf i).toNat)
    case atStart => exact ⟨0, 0, by omega, rfl, Lib.hid rfl, rfl⟩
    case round =>
      obtain ⟨k, q, hk, rfl, HT, rfl⟩ := hrel
      by_cases hlt : k < xs.length
      · have hlt2 : k < ys.length := by omega
        obtain ⟨ad, e0, hx⟩ := Kd.at_string HR0.out (k : Int) (by omega) (by omega)
        obtain ⟨bd, e1, hy⟩ := Kd.at_string HR1.out (k : Int) (by omega) (by omega)
        subst e0 e1
        have ex : rdOf ByteArray.empty xs (k : Int) = xs[k] := by simp [rdOf, hlt]
        have ey : rdOf ByteArray.empty ys (k : Int) = ys[k] := by simp [rdOf, hlt2]
        rw [ex] at hx
        rw [ey] at hy
        rw [Int.toNat_natCast] at hx hy
        have HTX : Hid (xs.take (k + 1) = xs.take k ++ [xs[k]]) := Lib.hid (List.take_succ_eq_append_getElem hlt)
        have HTY : Hid (ys.take (k + 1) = ys.take k ++ [ys[k]]) := Lib.hid (List.take_succ_eq_append_getElem hlt2)
        have HNE : Hid (xs[k] ≠ ys[k] → xs ≠ ys) := Lib.hid fun h he => h (by simp only [he])
        clear ex ey
        generalize xs[k] = a at *
        generalize ys[k] = b at *
        by_cases hab : a = b
        · subst hab
          go_wp2
          go_quiet (fail)
          go_wp2
          go_roundw
          case rel => exact ⟨k + 1, _, by omega, by go_num, Lib.hid (by rw [HTX.out, HTY.out, HT.out]), by first | rfl | rw [World.drewN_drewN]⟩
          case measure => simp [intOf]; omega
        · have HF : Hid (decide (xs = ys) = false) := Lib.hid (decide_eq_false (HNE.out hab))
          have d1 : (a.toList == b.toList) = false := beq_eq_false_iff_ne.2 (fun h => hab (toList_inj h))
          have d2 : (a.toList != b.toList) = true := by simp [bne, d1]
          go_wp2
          go_quiet (fail)
          go_wp2
          go_ret
          exact ⟨by rw [HF.out]; rfl, _, by first | rfl | rw [World.drewN_drewN]⟩
      · have e : xs = ys := by
          have h := HT.out
          rw [show k = xs.length by omega, List.take_length, HL.out, List.take_length] at h
          exact h
        have HTT : Hid (decide (xs = ys) = true) := Lib.hid (decide_eq_true e)
        clear e
        go_wp2
        go_ret
        exact ⟨by rw [HTT.out]; rfl, _, by first | rfl | rw [World.drewN_drewN]⟩
  · have b1 : ((xs.length : Int) == (ys.length : Int)) = false := by simp; omega
    have b2 : ((xs.length : Int) != (ys.length : Int)) = true := by simp; omega
    have b3 : (xs.length == ys.length) = false := by simpa using hl
    have HF : Hid (decide (xs = ys) = false) := Lib.hid (decide_eq_false (fun h => hl (by rw [h])))
    go_enter Try.func89, Try.ntmps89
    go_wp2
    go_ret
    exact ⟨by rw [HF.out]; rfl, 0, rfl⟩
end Sa
end Go.Proofs.Ytjeeakhgjcbhaaa
