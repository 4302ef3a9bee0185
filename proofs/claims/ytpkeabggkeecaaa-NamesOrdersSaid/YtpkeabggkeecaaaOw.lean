/- Layer 5, walks: Order. -/
import Derived.Test.YtpkeabggkeecaaaOs
import Derived.Lib.SmallJoins
import Derived.Laws.MakeOwn
set_option linter.unusedVariables false
set_option linter.unusedSimpArgs false
namespace Go.Proofs.Ytpkeabggkeecaaa
open Go.RowKit Go.Proofs.YtpkeabggkeecaaaW.PrintWords
namespace Nm
open Wd
def firstPath : List (List ByteArray) → Int
  | [] => 0
  | x :: r => if path x = 0 then firstPath r else path x
def clashE (P : List (List ByteArray)) : Int := (clashFrom P P.length 0).2.2
/-- The error that Order answers. -/
def ordE (P : List (List ByteArray)) : Int := if 4096 < P.length then 58 else if firstPath P = 0 then clashE P else firstPath P
/-- The list that Order answers. -/
def ordL (P : List (List ByteArray)) : List Int := if ordE P = 0 then sortI P else []
def OrdR (P : List (List ByteArray)) (w : World) (e : Ending) (w' : World) : Prop :=
  ∃ A c, e = .returned (.tuple #[.slice A (ordL P).length c, .int .i64 (ordE P)]) ∧ (ordL P).length ≤ c ∧ (Kd.int .i64).C w' A (ordL P).length (ordL P) ∧ Below w.heap.size w w'
theorem ord_bad {P : List (List ByteArray)} {w w' : World} {n : Int} (h : ordE P = n) (h0 : n ≠ 0) (hb : Below w.heap.size w w') : OrdR P w (.returned (.tuple #[.slice none 0 0, .int .i64 n])) w' := by
  have hl : ordL P = [] := if_neg (by omega)
  unfold OrdR
  rw [hl, h]
  exact ⟨none, 0, rfl, Nat.le_refl _, Kd.C_nil _ _, hb⟩
/-- The row while it is filled: the first k places, then zeros. -/
def fillV (n k : Nat) : List Value := (List.range n).map fun j => if j < k then Value.int .i64 ((j : Nat) : Int) else Value.int .i64 0
theorem fill_zero (n : Nat) : (madeCells #[Value.int .i64 0] n).toList = fillV n 0 := by
  apply List.ext_getElem
  · simp [fillV, madeCells]
  · intro i h1 h2
    simp [fillV, madeCells, Nat.mod_one]
theorem fill_step (n k : Nat) (cs : Array Value) (h : cs.toList = fillV n k) (hk : k < n) : (cs.setIfInBounds k (.int .i64 ((k : Nat) : Int))).toList = fillV n (k + 1) := by
  rw [Array.toList_setIfInBounds, h]
  apply List.ext_getElem
  · simp [fillV]
  · intro i h1 h2
    simp only [List.getElem_set, fillV, List.getElem_map, List.getElem_range]
    by_cases e : k = i
    · subst e; simp
    · rw [if_neg e]
      by_cases g : i < k
      · rw [if_pos g, if_pos (by omega)]
      · rw [if_neg g, if_neg (by omega)]
theorem infoInt : (Try.prog.info? 3).map (fun i => (i.zero, i.size, i.bytes)) = some (some (.int .i64 0), 1, 8) := by kernel_rfl
theorem made_ints (w : World) (n : Nat) (hn : n ≤ 4096) :
    (Instr.makeSlice 24 (.int .i64 (n : Int)) (.int .i64 (n : Int))).run Try.prog w = .ok (.slice (some ⟨w.heap.size, 0, none⟩) n n) (w.alloc (.cells (madeCells #[.int .i64 0] n) 3)) :=
  print_make 24 3 .i64 8 Try.underlying24 infoInt (by omega) n (by omega) w
/-- The filled row holds the places. -/
theorem holds_fill {P : List (List ByteArray)} {w : World} {blk : Nat} {cs : Array Value} [Inhabited (Fin P.length)] (h : w.heap[blk]? = some (.cells cs 3 (0, 0))) (hf : cs.toList = fillV P.length P.length) :
    Sort.Holds (encF P.length) w blk 0 (List.finRange P.length).toArray := fun j hj => by
  have hj' : j < P.length := by simpa using hj
  refine ⟨?_, by rw [Nat.zero_add]; exact Go.Joins.unfrozen_of_block h j⟩
  rw [Nat.zero_add, Go.Joins.cell_of_block h, ← Array.getElem?_toList, hf, getElem!_pos (List.finRange P.length).toArray j hj]
  simp [fillV, encF, hj']
/-- What the sorted row reads as. -/
theorem sorted_reads {P : List (List ByteArray)} {w : World} {blk m : Nat} {os : Array Obj} [Inhabited (Fin P.length)] (h : Sort.Holds (encF P.length) w blk 0 (List.finRange P.length).toArray) (hblk : blk < w.heap.size) (hn : P.length ≤ 4096) :
    (Kd.int .i64).C (sortWorld (encF P.length) w blk 0 m (sortF P).toArray os) (some ⟨blk, 0, none⟩) (sortI P).length (sortI P) := by
  have hs : (sortF P).toArray.size = (List.finRange P.length).toArray.size := by simp [sortF_length]
  have hh := Sort.holds_putRow (encF P.length) (Sort.ahead w m) blk 0 _ (sortF P).toArray (fun j hj => h j hj) hs
  refine ⟨rfl, by rw [sortI_length]; omega, fun _ => ⟨_, rfl, fun j p hj => ⟨[.int .i64 p], rfl, rfl, fun i u hu => ?_⟩⟩⟩
  obtain ⟨hj', hp⟩ := List.getElem?_eq_some_iff.1 hj
  cases i with
  | succ i => simp at hu
  | zero =>
    obtain rfl : Value.int .i64 p = u := by simpa using hu
    have hj2 : j < (sortF P).toArray.size := by simpa [sortI] using hj'
    have hc := (hh j hj2).1
    rw [Nat.zero_add] at hc
    rw [Go.WideShapes.add_plain]
    have e : (0 : Nat) + (j * (Kd.int .i64).sz + 0) = j := by show 0 + (j * 1 + 0) = j; omega
    rw [e]
    unfold sortWorld
    rw [Sort.cell?_grow _ _ _ (by rw [Sort.size_putRow]; exact hblk), hc, getElem!_pos (sortF P).toArray j hj2, ← hp]
    simp [sortI, encF]
set_option maxHeartbeats 1000000 in
set_option maxRecDepth 100000 in
theorem order_any (A0 : Option Addr) (c0 : Nat) (P : List (List ByteArray)) (w : World) (hr : KL.C w A0 P.length P) (hl : P.length ≤ 5864062014804) (hs : Lens P) (hz : Shorts P) :
    Calls Try.prog 5 #[.slice A0 P.length c0] w (OrdR P w) := by
  have HR := Aside0.mk hr
  have HS := Lib.hid hs
  have HCL : Hid (∀ w : World, KL.C w A0 P.length P → Calls Try.prog 11 #[.slice A0 P.length c0] w fun e w' => e = .returned (ClashV P) ∧ Below w.heap.size w w') := Lib.hid fun w h => clash_any A0 c0 P w h hl hs hz
  by_cases hbig : 4096 < P.length
  · have HE : Hid (ordE P = 58) := Lib.hid (if_pos hbig)
    clear hr hs hz HCL
    go_enter Try.func5, Try.ntmps5
    go_wp2
    go_ret2
    exact ord_bad HE.out (by omega) (below_alloc (Below.refl _ _) _)
  have hbig2 : decide ((4096 : Int) < (P.length : Int)) = false := decide_eq_false (by omega)
  have HE : Hid (ordE P = if firstPath P = 0 then clashE P else firstPath P) := Lib.hid (if_neg hbig)
  clear hr hs hz
  go_enter Try.func5, Try.ntmps5
  go_wp2
  go_loopw [17] (fun i wr => ∃ k : Nat, k ≤ P.length ∧ i = .int .i64 k ∧ Hid (firstPath (P.drop k) = firstPath P) ∧ Aside0 (wr.cell? ⟨w.heap.size, 0, none⟩ = some (.slice A0 P.length c0)) ∧ Aside0 (Below w.heap.size w wr)) (fun i _ => P.length - (intOf i).toNat)
  case atStart => exact ⟨0, by omega, rfl, Lib.hid rfl, ⟨by rw [World.cell?_alloc_mark]; rfl⟩, ⟨below_alloc (Below.refl _ _) _⟩⟩
  case round =>
    obtain ⟨k, hk, rfl, HC, HX, HB⟩ := hrel
    by_cases hlt : k < P.length
    · obtain ⟨ad, B, c, e1, hx, hc, hrx⟩ := at_list HR.out k hlt
      cases e1
      replace hx := cell_stay HB.out hx
      have HP : Hid (∀ w1 : World, Aside0 (Below w.heap.size w w1) → Calls Try.prog 10 #[.slice B (lx P k).length c] w1 fun e w' => e = .returned (.int .i64 (path (lx P k))) ∧ Below w1.heap.size w1 w') := Lib.hid fun w1 h => path_any B c _ w1 (Kd.C_below hrx h.out)
      have HU : Hid (firstPath (P.drop k) = if path (lx P k) = 0 then firstPath (P.drop (k + 1)) else path (lx P k)) := Lib.hid (by rw [nth_drop [] P k hlt]; rfl)
      clear hrx hc
      generalize path (lx P k) = n at *
      generalize lx P k = xs at *
      by_cases h0 : n = 0
      · have hn : (n != 0) = false := by simp [h0]
        rw [if_pos h0] at HU
        clear h0
        go_wp2_with (go_at_call 10; refine (HP.out _ HB).mono ?_; rintro e w2 ⟨rfl, hb2⟩)
        go_roundw
        case rel => exact ⟨k + 1, by omega, by go_num, Lib.hid (by rw [← HC.out, HU.out]), ⟨cell_stay hb2 HX.out⟩, ⟨below_step HB.out hb2⟩⟩
        case measure => simp [intOf]; omega
      · have hn : (n != 0) = true := by simp [h0]
        rw [if_neg h0] at HU
        have HF : Hid (ordE P = n) := Lib.hid (by rw [HE.out, ← HC.out, HU.out, if_neg h0])
        have H0 := Lib.hid h0
        clear h0
        go_wp2_with (go_at_call 10; refine (HP.out _ HB).mono ?_; rintro e w2 ⟨rfl, hb2⟩)
        go_ret2
        exact ord_bad HF.out H0.out (below_step HB.out hb2)
    · have HF : Hid (ordE P = clashE P) := Lib.hid (by rw [HE.out, ← HC.out, List.drop_of_length_le (by omega)]; rfl)
      have hx0 := HX.out
      have HA := Lib.hid (apart_of (P := P))
      unfold ClashV at HCL
      have hce : clashE P = (clashFrom P P.length 0).2.2 := rfl
      rw [hce] at HF
      clear hce HC HE
      generalize (clashFrom P P.length 0).1 = a at *
      generalize (clashFrom P P.length 0).2.1 = b at *
      generalize (clashFrom P P.length 0).2.2 = n at *
      by_cases h0 : n = 0
      · have hap := Lib.hid (HA.out h0)
        have hn : (n != 0) = false := by simp [h0]
        have hle : P.length ≤ 4096 := by omega
        have hmk : ∀ W, (Instr.makeSlice 24 (.int .i64 (P.length : Int)) (.int .i64 (P.length : Int))).run Try.prog W = .ok (.slice (some ⟨W.heap.size, 0, none⟩) P.length P.length) (W.alloc (.cells (madeCells #[.int .i64 0] P.length) 3)) := fun W => made_ints W _ hle
        have HF2 : Hid (ordE P = 0) := Lib.hid (by rw [HF.out, h0])
        clear h0 HA HF
        go_wp2_with fail
        go_at_call 11
        refine (HCL.out _ (Kd.C_below HR.out HB.out)).mono ?_
        rintro e w2 ⟨rfl, hb2⟩
        have HX2 := Aside0.mk (cell_stay hb2 hx0)
        have HB2 := Aside0.mk (below_step HB.out hb2)
        clear hx0 hb2 HX HB HCL
        have hx2 := HX2.out
        go_wp2
        clear hmk hx2
        have hlt2 : w.heap.size < w2.heap.size := by have := World.block_lt_of_cell? w2 _ HX2.out; exact this
        have HBW := Lib.hid hlt2
        go_loopw [41] (fun i wq => ∃ j : Nat, j ≤ P.length ∧ i = .int .i64 j ∧ Aside0 (∃ cs : Array Value, wq.heap[w2.heap.size]? = some (.cells cs 3 (0, 0)) ∧ cs.toList = fillV P.length j) ∧ Aside0 (wq.cell? ⟨w.heap.size, 0, none⟩ = some (.slice A0 P.length c0)) ∧ Aside0 (Below w.heap.size w wq)) (fun i _ => P.length - (intOf i).toNat)
        case atStart => exact ⟨0, by omega, rfl, ⟨madeCells #[.int .i64 0] P.length, by show (w2.heap.push _)[w2.heap.size]? = _; simp, fill_zero _⟩, ⟨cell_stay (below_alloc (Below.refl _ _) _) HX2.out⟩, ⟨below_alloc HB2.out _⟩⟩
        case round =>
          obtain ⟨j, hj, rfl, HK, HX3, HB3⟩ := hrel
          by_cases hjl : j < P.length
          · obtain ⟨cs, hcs, hfl⟩ := HK.out
            have hsz : cs.size = P.length := by rw [← Array.length_toList, hfl]; simp [fillV]
            obtain ⟨u, hxc⟩ : ∃ u, wr.cell? ⟨w2.heap.size, j, none⟩ = some u := ⟨cs[j]'(by omega), by rw [Go.Joins.cell_of_block hcs]; simp [hsz, hjl]⟩
            have hfz : wr.frozen? ⟨w2.heap.size, j, none⟩ = false := Go.Joins.unfrozen_of_block hcs j
            have HK1 : Aside0 (∃ cs : Array Value, (wr.setCell ⟨w2.heap.size, j, none⟩ (.int .i64 j)).heap[w2.heap.size]? = some (.cells cs 3 (0, 0)) ∧ cs.toList = fillV P.length (j + 1)) := ⟨_, Go.Joins.block_setCell hcs _, fill_step _ _ _ hfl hjl⟩
            clear hsz hfl hcs HK
            go_wp2
            go_roundw
            case rel => exact ⟨j + 1, by omega, by go_num, HK1, ⟨by have h := HX3.out; unfold World.cell? at h ⊢; rw [Below.heap_setCell wr ⟨w2.heap.size, j, none⟩ _ w.heap.size (by have := HBW.out; show w.heap.size ≠ w2.heap.size; omega)]; exact h⟩, ⟨HB3.out.setCell (Nat.le_of_lt HBW.out) _⟩⟩
            case measure => simp [intOf]; omega
          · obtain rfl : j = P.length := by omega
            obtain ⟨cs, hcs, hfl⟩ := HK.out
            have hblk : w2.heap.size < wr.heap.size := Nat.lt_of_not_le fun h => by rw [Array.getElem?_eq_none h] at hcs; cases hcs
            have hne : w.heap.size ≠ w2.heap.size := by have := HBW.out; omega
            have HL : Hid (ordL P = sortI P) := Lib.hid (if_pos HF2.out)
            by_cases hpos : 0 < P.length
            · letI : Inhabited (Fin P.length) := ⟨⟨0, hpos⟩⟩
              have hH := holds_fill hcs hfl
              have HSo := Lib.hid (sorts_any A0 c0 P w.heap.size w2.heap.size P.length w wr HR.out HS.out hl HB3.out (Nat.le_of_lt HBW.out) hblk HX3.out hne hap.out hpos hH)
              have HRd : Hid (∀ m os, (Kd.int .i64).C (sortWorld (encF P.length) wr w2.heap.size 0 m (sortF P).toArray os) (some ⟨w2.heap.size, 0, none⟩) (sortI P).length (sortI P)) := Lib.hid fun m os => sorted_reads hH hblk hle
              have HBd : Hid (∀ m os, Below w.heap.size w (sortWorld (encF P.length) wr w2.heap.size 0 m (sortF P).toArray os)) := Lib.hid fun m os => sort_below _ HB3.out (Nat.le_of_lt HBW.out) 0 m _ os
              have HLn := Lib.hid (sortI_length P)
              clear hcs hfl hblk hne hH HK
              go_wp2_with fail
              go_at_call 12
              refine HSo.out.mono ?_
              rintro e w5 ⟨rfl, m, os, rfl⟩
              go_wp2
              go_ret2
              unfold OrdR
              rw [HL.out, HF2.out, HLn.out]
              refine ⟨_, _, rfl, Nat.le_refl _, ?_, HBd.out _ _⟩
              have := HRd.out m os
              rwa [HLn.out] at this
            · have h0 : P.length = 0 := by omega
              have HSo : Hid (∀ fv W, Calls Try.prog 12 #[.slice (some ⟨w2.heap.size, 0, none⟩) P.length P.length, fv] W fun e w' => e = .returned (.tuple #[]) ∧ w' = W) := Lib.hid fun fv W => by
                rw [h0]; exact AnyF.slices_SortFunc_none { Try.sortInts with } (some ⟨w2.heap.size, 0, none⟩) 0 fv W
              have HLn : Hid ((sortI P).length = P.length) := Lib.hid (sortI_length P)
              have HRd : Hid ((Kd.int .i64).C wr (some ⟨w2.heap.size, 0, none⟩) P.length (sortI P)) := Lib.hid ⟨sortI_length P, by omega, fun h => by omega⟩
              clear h0 hpos hcs hfl hblk hne HK
              go_wp2_with fail
              go_at_call 12
              refine (HSo.out _ _).mono ?_
              rintro e w5 ⟨rfl, rfl⟩
              go_wp2
              go_ret2
              unfold OrdR
              rw [HL.out, HF2.out, HLn.out]
              exact ⟨_, _, rfl, Nat.le_refl _, HRd.out, HB3.out⟩
      · have hn : (n != 0) = true := by simp [h0]
        have H0 := Lib.hid h0
        clear h0 HA
        go_wp2_with (go_at_call 11; refine (HCL.out _ (Kd.C_below HR.out HB.out)).mono ?_; rintro e w2 ⟨rfl, hb2⟩)
        go_ret2
        exact ord_bad HF.out H0.out (below_step HB.out hb2)
end Nm
end Go.Proofs.Ytpkeabggkeecaaa
