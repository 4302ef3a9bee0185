/- torrentlaw14.StoreNeeds, its walk. -/
import Derived.Test.YtjeeakhgjcbhaaaSb
import Derived.Test.YtjeeakhgjcbhaaaSe
import Derived.Test.YtjeeakhgjcbhaaaFr
import Derived.OpenShut
import Derived.Deep.RegionWith
set_option linter.unusedVariables false
set_option linter.unusedSimpArgs false
namespace Go.Proofs.Ytjeeakhgjcbhaaa
open Go.RowKit Go.Proofs.YtjeeakhgjcbhaaaW.PrintWords
namespace Sn
open Wd Fl P2
/-- The same piece, one byte longer. -/
def inc (p : Pc) : Pc := { p with len := IntKind.i64.wrap (p.len + 1), w1 := Go.wf_wrap _ _ }
theorem enc_inc (p : Pc) : encP (inc p) = (encP p).set 0 (.int .i64 (IntKind.i64.wrap (p.len + 1))) := rfl
def pcN : Pc := ⟨-5, 0, false, List.replicate 32 0, by simp, rfl, rfl, fun z hz => by rw [(List.mem_replicate.1 hz).2]; rfl⟩
/-- The list while it is written over: the first k are one longer. -/
def mid (xs : List Pc) (k : Nat) : List Pc := (xs.take k).map inc ++ (xs.drop k ++ [pcN])
theorem mid_len (xs : List Pc) (k : Nat) : (mid xs k).length = xs.length + 1 := by
  unfold mid; simp; omega
theorem mid_at (xs : List Pc) (k : Nat) (hk : k < xs.length) : px (mid xs k) k = px xs k := by
  unfold px mid
  have h : ((xs.take k).map inc).length = k := by rw [List.length_map, List.length_take]; omega
  rw [List.getD_eq_getElem?_getD, List.getElem?_append_right (by omega), h, Nat.sub_self, List.drop_eq_getElem_cons hk, List.cons_append, List.getElem?_cons_zero]
  simp [List.getD_eq_getElem?_getD, List.getElem?_eq_getElem hk]
theorem mid_succ (xs : List Pc) (k : Nat) (hk : k < xs.length) : (mid xs k).set k (inc (px xs k)) = mid xs (k + 1) := by
  unfold mid
  have h : ((xs.take k).map inc).length = k := by rw [List.length_map, List.length_take]; omega
  rw [show xs.take (k + 1) = xs.take k ++ [px xs k] from getD_take xs k pc0 hk, List.map_append, show xs.drop k = px xs k :: xs.drop (k + 1) from getD_drop xs k pc0 hk]
  rw [List.set_append_right _ _ (by omega), h, Nat.sub_self]
  simp
theorem mid_zero (xs : List Pc) : mid xs 0 = xs ++ [pcN] := by unfold mid; simp
theorem mid_take (xs : List Pc) : (mid xs 0).take xs.length = xs := by rw [mid_zero]; simp
theorem mid_end (xs : List Pc) : (mid xs xs.length).take xs.length = xs.map inc := by
  unfold mid
  rw [List.take_length, List.take_left' (by rw [List.length_map])]
theorem infoP2 : (Try.prog.info? 38).map (fun i => (i.zero, i.size)) = some (some (.agg (encP pc0).toArray), (encP pcN).toArray.size) := by kernel_rfl
theorem below_w {w W : World} {o : Obj} (h : Below (w.heap.size + 1) (w.alloc o) W) : Below w.heap.size w W := (below_alloc (Below.refl _ _) o).trans (h.mono (by omega))
theorem wr64 (z : Int) : IntKind.i64.wrap z = wrap64 z := by rw [IntKind.wrap_i64, wrap64]
theorem below_st {w W W' : World} {o : Obj} (h : Below (w.heap.size + 1) (w.alloc o) W) (hb : Below W.heap.size W W') : Below (w.heap.size + 1) (w.alloc o) W' := h.trans (hb.mono (by have := h.size; rw [World.size_alloc] at this; exact this))
theorem row_C0 {w : World} {g : Nat} {ps : List Pc} (h : RowOf encP 35 w g 38 (mid ps 0)) : KP.C w (some ⟨g, 0, none⟩) ps.length ps := by
  have := rowOf_C (hn := encP_len) (h1 := encP_one) h ps.length (by rw [mid_len]; omega)
  rwa [mid_take] at this
theorem row_C1 {w : World} {g : Nat} {ps : List Pc} (h : RowOf encP 35 w g 38 (mid ps ps.length)) : KP.C w (some ⟨g, 0, none⟩) ps.length (ps.map inc) := by
  have := rowOf_C (hn := encP_len) (h1 := encP_one) h ps.length (by rw [mid_len]; omega)
  rwa [mid_end] at this
theorem box_cell {w W : World} {x y : Value} {t : TypeId} (h : Below (w.heap.size + 1) (w.alloc (.cells #[x, y] t)) W) : W.cell? ⟨w.heap.size, 0, none⟩ = some x ∧ W.cell? ⟨w.heap.size, 1, none⟩ = some y :=
  ⟨(h.cell (p := ⟨w.heap.size, 0, none⟩) (Nat.lt_succ_self _)).trans (by rw [World.cell?_alloc_mark]; rfl), (h.cell (p := ⟨w.heap.size, 1, none⟩) (Nat.lt_succ_self _)).trans (by rw [World.cell?_alloc_mark]; rfl)⟩
set_option maxHeartbeats 2000000 in
set_option maxRecDepth 100000 in
theorem law_any (b wd : Int) (A0 : Option Addr) (c0 : Nat) (ps : List Pc) (w : World) (hr : KP.C w A0 ps.length ps) (hl : ps.length * 56 ≤ 140737488351232) :
    Calls Try.prog 4 #[.agg #[.int .i64 b, .int .i64 wd], .slice A0 ps.length c0] w fun e w' => e = .returned (.bool true) ∧ Below w.heap.size w w' := by
  have HR := Aside0.mk hr
  clear hr
  go_enter Try.func4, Try.ntmps4
  go_wp2_with fail
  go_at_call 14
  refine (told_any A0 c0 ps _ (Kd.C_below HR.out (below_alloc (Below.refl _ _) _)) (by omega)).mono ?_
  rintro e w1 ⟨v1, rfl, ho1, hb1⟩
  have HO1 := Aside0.mk ho1
  have HB1 := Aside0.mk hb1
  have HZ1 := Aside0.mk hb1.size
  clear ho1 hb1
  rw [World.size_alloc] at HO1 HB1 HZ1
  go_wp2_with (first | ((with_reducible refine Fl.wpList_build_to rfl 38 _ rfl (encP pcN).toArray ?bf ?_); (case bf => kernel_rfl)) | ((with_reducible refine Fl.wpList_lit_one rfl 35 38 (.tmp 17) rfl (encP pcN).toArray ?tx Try.underlying35 (.agg (encP pc0).toArray) ?ti ?tp ?ts ?_); (case tx => rfl); (case ti => exact infoP2); (case tp => decide); (case ts => decide)) | (at_builtin; refine Kd.R_append KP (w0 := w.alloc (.cells #[.int .i64 b, .int .i64 wd] 34)) (w.heap.size + 1) rfl (.tmp 16) (.tmp 18) 35 38 (.agg (encP pc0).toArray) 56 rfl Try.underlying35 infoP rfl (by decide) (by omega) v1 (ps) (pcN) (encP pcN) (fun _ => True) (fun _ => False) rfl rfl ?aP (fun _ h => h.elim) ?aF ?aO ?aB ?aS ?aL ?_; (case aP => exact rfl); (case aB => exact HB1.out); (case aF => exact (fun _ _ => trivial)); (case aO => exact HO1.out); (case aS => exact HZ1.out); (case aL => omega); intro v2 w2 ho hb hg hat; have HO2 := Aside0.mk ho; have HB2 := Aside0.mk hb; clear ho hb hg hat))
  go_at_call 14
  refine (told_any A0 c0 ps _ (Kd.C_below HR.out (below_w HB2.out)) (by omega)).mono ?_
  rintro e w3 ⟨v3, rfl, ho3, hb3⟩
  obtain ⟨g, cap, rfl, hcap, hcm, hg, hrow⟩ := rowOf_R' (m := ps.length + 1) HO2.out (by simp) (by omega)
  have HR3 : Aside0 (KP.R 38 w3 w2.heap.size (fun k => w2.heap.size ≤ k) v3 ps) := ⟨Kd.R_mono (Kd.R_bound ho3) (fun k hk => hk.2.1)⟩
  obtain ⟨B3, d3, rfl, hd3, hr3⟩ := Kd.R_reads ho3
  have hglt := rowOf_lt hrow
  have hrow3 := rowOf_below hrow hb3
  rw [← mid_zero] at hrow3
  have HRW := Aside0.mk hrow3
  have HC3 := Aside0.mk hr3
  have HB3 := Aside0.mk (below_st HB2.out hb3)
  clear ho3 hb3 hr3 hrow hrow3 HO1 HO2 HB1 HZ1
  obtain ⟨x0, x1⟩ := box_cell HB3.out
  have HN1 : Hid (∀ A c (w : World), KP.C w A ps.length ps → Calls Try.prog 15 #[.agg #[.int .i64 b, .int .i64 wd], .slice A ps.length c] w fun e w' => e = .returned (.tuple #[.int .i64 (needN b wd ps), .int .i64 (needE b wd ps)]) ∧ Below w.heap.size w w') := Lib.hid fun A c w h => refNeed_any b wd A c ps w h (by omega)
  have HN2 : Hid (∀ A c (w : World), KP.C w A ps.length ps → Calls Try.prog 16 #[.agg #[.int .i64 b, .int .i64 wd], .slice A ps.length c] w fun e w' => e = .returned (.tuple #[.int .i64 (needN b wd ps), .int .i64 (needE b wd ps)]) ∧ Below w.heap.size w w') := Lib.hid fun A c w h => need_any b wd A c ps w h (by omega)
  have N1 : (needN b wd ps == needN b wd ps) = true := by simp
  have E1 : (needE b wd ps == needE b wd ps) = true := by simp
  generalize needN b wd ps = n1 at *
  generalize needE b wd ps = e1 at *
  go_wp2_with fail
  go_at_call 15
  refine (HN1.out _ _ _ HC3.out).mono ?_
  rintro e w4 ⟨rfl, hb4⟩
  replace HRW := Aside0.mk (rowOf_below HRW.out hb4)
  replace HR3 := Aside0.mk (Kd.R_below HR3.out hb4)
  replace HB3 := Aside0.mk (below_st HB3.out hb4)
  clear x0 x1 hb4 HC3
  obtain ⟨x0, x1⟩ := box_cell HB3.out
  have hc1 : ps.length ≤ cap := by omega
  have hc2 : cap ≤ 9223372036854775807 := by unfold maxLen at hcm; omega
  go_wp2_with fail
  go_region_with (go_at_call 16; refine (HN2.out _ _ _ (row_C0 (rowOf_below HRW.out (below_drew1 (Below.refl _ _))))).mono ?_; rintro e w5 ⟨rfl, hb5⟩)
  replace HRW := Aside0.mk (rowOf_below HRW.out (below_step (below_drew1 (Below.refl _ _)) hb5))
  replace HR3 := Aside0.mk (Kd.R_below HR3.out (below_step (below_drew1 (Below.refl _ _)) hb5))
  replace HB3 := Aside0.mk (below_st HB3.out (below_step (below_drew1 (Below.refl _ _)) hb5))
  clear x0 x1 hb5
  have hcN : w5.cell? ⟨g, ps.length * 35, none⟩ = some (.int .i64 (-5)) := rowOf_cell encP_len HRW.out pc0 ps.length (by rw [mid_len]; omega) 0 _ (by
    have : (mid ps 0).getD ps.length pc0 = pcN := by rw [mid_zero]; simp [List.getD_eq_getElem?_getD]
    rw [this]; rfl)
  go_wp2
  have HCP := Lib.hid (And.intro hc1 hc2)
  clear hcN hc1 hc2 N1 E1
  have HG := Lib.hid hg
  have HG2 := Lib.hid hglt
  clear hg hglt hcap hcm hd3 HB2
  go_loopw [11, 12] (fun ok i wr => ∃ k : Nat, k ≤ ps.length ∧ i = .int .i64 k ∧ ok = .bool true ∧ Aside0 (RowOf encP 35 wr g 38 (mid ps k)) ∧ Aside0 (KP.R 38 wr w2.heap.size (fun k => w2.heap.size ≤ k) (.slice B3 ps.length d3) ps) ∧ Aside0 (Below (w.heap.size + 1) (w.alloc (.cells #[.int .i64 b, .int .i64 wd] 34)) wr)) (fun _ i _ => ps.length - (intOf i).toNat)
  case atStart => exact ⟨0, by omega, rfl, rfl, HRW, HR3, HB3⟩
  case round =>
    clear HRW HR3 HB3
    obtain ⟨k, hk, rfl, rfl, HRW, HR3, HB3⟩ := hrel
    by_cases hlt : k < ps.length
    · have hml : k < (mid ps k).length := by rw [mid_len]; omega
      have HX1 : Hid (∀ q j u, (encP (px ps k))[j]? = some u → (wr.drewN q).cell? ⟨g, k * 35 + j, none⟩ = some u) := Lib.hid fun q j u hu => by
        rw [World.cell?_drewN]
        exact rowOf_cell encP_len HRW.out pc0 k hml j u (by rw [show (mid ps k).getD k pc0 = px ps k from mid_at ps k hlt]; exact hu)
      obtain ⟨B3', d3', e3, _, hr3⟩ := Kd.R_reads HR3.out
      injection e3 with e3a e3b e3c
      subst e3a e3c
      obtain ⟨bd, e0, hy⟩ := at_pc hr3 k hlt
      subst e0
      have HL1 : Hid (∀ q, (Instr.loadAt 38 (.pointer (some ⟨g, k * 35, none⟩))).run Try.prog (wr.drewN q) = .ok (.agg (encP (px ps k)).toArray) (wr.drewN q)) := Lib.hid fun q => Fl.run_load (fun j v hj => by rw [Go.WideShapes.add_plain]; exact HX1.out q j v hj) Try.underlying38 rfl (by rw [encP_len]; kernel_rfl)
      have HL2 : Hid (∀ q, (Instr.loadAt 38 (.pointer (some (bd.add (k * 35))))).run Try.prog (wr.drewN q) = .ok (.agg (encP (px ps k)).toArray) (wr.drewN q)) := Lib.hid fun q => Fl.run_load (fun j v hj => by rw [World.cell?_drewN, Go.Deep.add_add]; exact hy j v hj) Try.underlying38 rfl (by rw [encP_len]; kernel_rfl)
      have HEE := Lib.hid (eq_pc (px ps k))
      have HC0 : Hid (wr.cell? ⟨g, k * 35, none⟩ = some (.int .i64 (px ps k).len)) := Lib.hid (HX1.out 0 0 _ rfl)
      have HFZ : Hid (wr.frozen? ⟨g, k * 35, none⟩ = false) := Lib.hid (rowOf_frozen HRW.out _)
      have HSET : Hid (∀ q, RowOf encP 35 ((wr.drewN q).setCell ⟨g, k * 35, none⟩ (.int .i64 (IntKind.i64.wrap ((px ps k).len + 1)))) g 38 (mid ps (k + 1))) := Lib.hid fun q => by
        have := rowOf_set encP_len (rowOf_below HRW.out (below_drewN (Below.refl _ _) q)) pc0 (inc (px ps k)) k hml 0 (by omega) (.int .i64 (IntKind.i64.wrap ((px ps k).len + 1))) (by rw [show (mid ps k).getD k pc0 = px ps k from mid_at ps k hlt]; exact enc_inc _)
        rwa [mid_succ ps k hlt] at this
      have hb1 : (k : Int) < (ps.length : Int) + 1 := by omega
      have hb2 : k < ps.length + 1 := by omega
      clear hr3 hy hml
      generalize (px ps k).len = ln at *
      generalize px ps k = p at *
      go_wp2_with fail
      refine wp_region_quiet_lit (by kernel_rfl) (by kernel_rfl) ?_
      repeat (first
        | (go_big_quiet_want; (with_reducible refine Fl.quiet_load 38 (.tmp 64) rfl ⟨g, k * 35, none⟩ ?qx (encP p).toArray ?ql ?_); (case qx => rfl); (case ql => rintro _ ⟨q, rfl⟩; exact HL1.out q); go_simp; go_big_quiet_on)
        | (go_big_quiet_want; (with_reducible refine Fl.quiet_load 38 (.tmp 68) rfl (bd.add (k * 35)) ?qx (encP p).toArray ?ql ?_); (case qx => rfl); (case ql => rintro _ ⟨q, rfl⟩; exact HL2.out q); go_simp; go_big_quiet_on)
        | (go_big_quiet_want; (with_reducible refine Fl.quiet_eql 38 38 (.tmp 65) (.tmp 69) rfl (encP p).toArray (encP p).toArray ?qx ?qy (by kernel_rfl) true HEE.out ?_); (case qx => rfl); (case qy => rfl); go_simp; go_big_quiet_on)
        | go_big_quiet_step (fail))
      refine wpQuiet_nil ?_
      intro _ hw'
      obtain ⟨nq, hw''⟩ := hw'
      subst hw''
      have hc0 := HC0.out
      have hfz := HFZ.out
      go_wp2
      go_roundw
      case rel => exact ⟨k + 1, by omega, by go_num, rfl, ⟨by have h := HSET.out nq; rw [wr64] at h; exact h⟩, ⟨Kd.R_far (Kd.R_below HR3.out (below_drewN (Below.refl _ _) nq)) (fun m hm => by have := HG2.out; show m ≠ g; omega) _⟩, ⟨(below_st HB3.out (below_drewN (Below.refl _ _) nq)).setCell HG.out _⟩⟩
      case measure => simp [intOf]; omega
    · obtain rfl : k = ps.length := by omega
      have hin : Hid ((ps.map inc).length = ps.length) := Lib.hid (by simp)
      have hin2 : Hid (ps.length = (ps.map inc).length) := Lib.hid (by simp)
      have HC1 : Aside0 (KP.C wr (some ⟨g, 0, none⟩) ps.length (ps.map inc)) := ⟨row_C1 HRW.out⟩
      generalize hqs : ps.map inc = qs at *
      clear hqs
      have HT : Hid (∀ A c (w : World), KP.C w A ps.length qs → Calls Try.prog 14 #[.slice A ps.length c, .slice none 0 0] w fun e w' => ∃ v, e = .returned v ∧ KP.R 38 w' w.heap.size (fun _ => True) v qs ∧ Below w.heap.size w w') := Lib.hid fun A c w h => by
        have := told_any A c qs w (by rw [hin.out]; exact h) (by rw [hin.out]; omega)
        rwa [hin.out] at this
      have HN1 : Hid (∀ A c (w : World), KP.C w A ps.length qs → Calls Try.prog 15 #[.agg #[.int .i64 b, .int .i64 wd], .slice A ps.length c] w fun e w' => e = .returned (.tuple #[.int .i64 (needN b wd qs), .int .i64 (needE b wd qs)]) ∧ Below w.heap.size w w') := Lib.hid fun A c w h => by
        have := refNeed_any b wd A c qs w (by rw [hin.out]; exact h) (by rw [hin.out]; omega)
        rwa [hin.out] at this
      have HN2 : Hid (∀ A c (w : World), KP.C w A ps.length qs → Calls Try.prog 16 #[.agg #[.int .i64 b, .int .i64 wd], .slice A ps.length c] w fun e w' => e = .returned (.tuple #[.int .i64 (needN b wd qs), .int .i64 (needE b wd qs)]) ∧ Below w.heap.size w w') := Lib.hid fun A c w h => by
        have := need_any b wd A c qs w (by rw [hin.out]; exact h) (by rw [hin.out]; omega)
        rwa [hin.out] at this
      have N1 : (needN b wd qs == needN b wd qs) = true := by simp
      have E1 : (needE b wd qs == needE b wd qs) = true := by simp
      generalize needN b wd qs = n2 at *
      generalize needE b wd qs = e2 at *
      obtain ⟨hc1, hc2⟩ := HCP.out
      go_wp2_with fail
      go_at_call 14
      refine (HT.out _ _ _ HC1.out).mono ?_
      rintro e w6 ⟨v6, rfl, ho6, hb6⟩
      obtain ⟨B6, d6, rfl, hd6, hr6⟩ := Kd.R_reads ho6
      have HC6 := Aside0.mk hr6
      replace HC1 := Aside0.mk (Kd.C_below HC1.out hb6)
      replace HB3 := Aside0.mk (below_st HB3.out hb6)
      clear ho6 hb6 hr6 hd6 HT
      rw [hin.out] at HC6
      rw [hin.out]
      obtain ⟨x0, x1⟩ := box_cell HB3.out
      go_wp2_with fail
      go_region_with (go_at_call 16; refine (HN2.out _ _ _ (Kd.C_below HC1.out (below_drew1 (Below.refl _ _)))).mono ?_; rintro e w7 ⟨rfl, hb7⟩)
      replace HC6 := Aside0.mk (Kd.C_below HC6.out (below_step (below_drew1 (Below.refl _ _)) hb7))
      replace HB3 := Aside0.mk (below_st HB3.out (below_step (below_drew1 (Below.refl _ _)) hb7))
      clear x0 x1 hb7 HC1
      obtain ⟨x0, x1⟩ := box_cell HB3.out
      go_wp2_with fail
      go_at_call 15
      refine (HN1.out _ _ _ HC6.out).mono ?_
      rintro e w8 ⟨rfl, hb8⟩
      go_wp2
      go_ret
      exact ⟨rfl, below_w (below_st HB3.out hb8)⟩
end Sn
end Go.Proofs.Ytjeeakhgjcbhaaa
