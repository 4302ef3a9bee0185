/- torrentlaw9.CreateMaps: for every metainfo, piece, file and offset create's Pieces, Row, Where and At answer as the document does, and nothing that was handed in is changed or kept. No condition beyond the form's own. -/
import Derived.Test.YtjeeakhgjcbhaaaUCm0
import Derived.Test.YtjeeakhgjcbhaaaPCreateBlocksx
import Derived.Test.YtjeeakhgjcbhaaaWWords
import Derived.Laws.BitsAllLaws
import Derived.Laws.BitsLemmas
import Derived.Outline
set_option linter.unusedVariables false
set_option linter.unusedSimpArgs false
namespace Go.Proofs.Ytjeeakhgjcbhaaa
open Go.RowKit Go.Proofs.YtjeeakhgjcbhaaaW.PrintWords Go.Proofs.YtjeeakhgjcbhaaaW
namespace Mt
open Wd Vl
/-- One metainfo in its box. -/
structure Bx (w : World) (m : MetaD) (g : Nat) (cs : List Value) (W : World) : Prop where
  bx : W.heap[g]? = some (.cells cs.toArray 46)
  k : KMeta.K W m cs
  bel : Below w.heap.size w W
section
variable {w W W1 : World} {m : MetaD} {g : Nat} {cs : List Value}
theorem Bx.below (h : Bx w m g cs W) (hb : Below W.heap.size W W1) : Bx w m g cs W1 := ⟨blk_below h.bx hb, KMeta.K_below hb h.k, below_step h.bel hb⟩
theorem Bx.load (h : Bx w m g cs W) : ∀ j u, cs[j]? = some u → W.cell? ((⟨g, 0, none⟩ : Addr).add j) = some u := fun j u hj => by rw [Go.WideShapes.add_plain, Go.Joins.cell_of_block h.bx, List.getElem?_toArray, Nat.zero_add]; exact hj
theorem Bx.first (w : World) (hK : KMeta.K w m cs) : Bx w m w.heap.size cs (w.alloc (.cells cs.toArray 46)) := ⟨heap_alloc_new w _, KMeta.K_below (below_alloc (Below.refl _ _) _) hK, below_alloc (Below.refl _ _) _⟩
/-- The twin, stored into a box of its own. -/
theorem Bx.twin {W0 : World} (hb : Below w.heap.size w W) (hl : W0.heap.size ≤ W.heap.size) (hB : Below W0.heap.size W0 W) (h : (KMT W0).M W W0.heap.size (fun _ => True) m cs) : Bx w m W.heap.size cs (W.alloc (.cells cs.toArray 46)) :=
  ⟨heap_alloc_new W _, KMeta.K_below (below_alloc (Below.refl _ _) _) (KMT_read hB ((KMT W0).K_of_M h)), below_alloc hb _⟩
theorem Bx.sz (h : Bx w m g cs W) : cs.length = 6 := KMeta.K_len h.k
theorem Bx.info (h : Bx w m g cs W) : (Try.prog.info? 46).map (·.size) = some cs.length := by rw [h.sz]; kernel_rfl
theorem Bx.info' (h : Bx w m g cs W) : (Try.prog.info? 46).map (·.size) = some cs.toArray.size := by rw [List.size_toArray]; exact h.info
theorem Bx.one (h : Bx w m g cs W) : cs.toArray.all (·.oneCell') = true := Fl.all_one fun u hu => KMeta.K_one h.k u hu
theorem Bx.alloc_ (h : Bx w m g cs W) (o : Obj) : ∀ V, V = W.alloc o → Bx w m g cs V := by rintro _ rfl; exact h.below (below_alloc (Below.refl _ _) o)
theorem sizeM (h : cs.length = 6) : (#[.string ⟨#[]⟩, .int .i64 0, .slice none 0 0, .slice none 0 0, .slice none 0 0, .slice none 0 0] : Array Value).size = cs.toArray.size := (show _ = cs.length by rw [h]; rfl)
end
end Mt
end Go.Proofs.Ytjeeakhgjcbhaaa
set_option linter.unusedVariables false
set_option linter.unusedSimpArgs false
namespace Go.Proofs.Ytjeeakhgjcbhaaa
open Go.RowKit Go.Proofs.YtjeeakhgjcbhaaaW.PrintWords Go.Proofs.YtjeeakhgjcbhaaaW Go.Proofs.YtjeeakhgjcbhaaaW.PrintMore
namespace Cr
open Wd Vl Mt PCreateBlocks
/-- A file's length that may not be. -/
def badLen (f : FileD) : Bool := decide (f.2.1 < 0) || decide (f.2.1 > 1099511627776)
/-- How many pieces, as create reckons it. -/
def cP (n pl : Int) : Int := wrap64 ((wrap64 (Int.tdiv n pl)) + (mn (Int.tmod n pl) 1))
def csum (pl : Int) : List FileD → Int → Int
  | [], s => s
  | f :: l, s => csum pl l (wrap64 (s + cP f.2.1 pl))
theorem csum_take (pl : Int) : ∀ (l : List FileD) (k : Nat) (s : Int), k < l.length → csum pl (l.take (k + 1)) s = wrap64 (csum pl (l.take k) s + cP (l.getD k f0).2.1 pl)
  | [], k, s, h => by simp at h
  | f :: l, 0, s, h => by simp [csum]
  | f :: l, k + 1, s, h => by
    simp only [List.take_succ_cons, csum, List.getD_cons_succ]
    exact csum_take pl l k _ (by simpa using h)
set_option maxRecDepth 100000 in
theorem fault1_any (f : FileD) (cs : List Value) (w : World) (hK : KFile.K w f cs) :
    Calls Try.prog 82 #[.agg cs.toArray] w fun e w' => e = .returned (.bool (badLen f)) ∧ Below w.heap.size w w' := by
  have hcs : cs[1]? = some (.int .i64 f.2.1) := by
    obtain ⟨P, p, M, q, rfl, _⟩ := file_open hK
    rfl
  have hc : (w.alloc (.cells cs.toArray 93)).cell? ⟨w.heap.size, 1, none⟩ = some (.int .i64 f.2.1) := (Go.Joins.cell_of_block (heap_alloc_new w _) 1).trans (by rw [List.getElem?_toArray]; exact hcs)
  have hB := below_alloc (Below.refl w.heap.size w) (.cells cs.toArray 93)
  clear hK
  go_enter Try.func82, Try.ntmps82
  unfold badLen
  generalize f.2.1 = n at *
  by_cases h1 : n < 0
  · have b1 : decide (n < 0) = true := decide_eq_true h1
    go_wp2
    go_ret
    exact ⟨by simp [b1], hB⟩
  · have b1 : decide (n < 0) = false := decide_eq_false h1
    go_wp2
    go_ret
    exact ⟨by simp [b1], hB⟩
set_option maxRecDepth 100000 in
theorem pieces_any (m : MetaD) (cs : List Value) (w : World) (hK : KMeta.K w m cs) :
    Calls Try.prog 55 #[.agg cs.toArray] w fun e w' => e = .returned (.func (.func 83) #[] #[.pointer (some ⟨w.heap.size, 0, none⟩)]) ∧ w'.cell? ⟨w.heap.size, 1, none⟩ = some (.int .i64 m.2.1) ∧ Below w.heap.size w w' := by
  obtain ⟨AF, cF, AL, cL, AI, cI, AT, cT, rfl, _⟩ := meta_open hK
  have hmf : ∀ (fn : Fn) (first cap : Array Value) (w : World), (Instr.makeFunc fn first cap).run Try.prog w = .ok (.func fn first cap) w := fun _ _ _ _ => rfl
  have hB := below_alloc (Below.refl w.heap.size w) (.cells #[.string m.1, .int .i64 m.2.1, .slice AF m.2.2.1.length cF, .slice AL m.2.2.2.1.length cL, .slice AI m.2.2.2.2.1.length cI, .slice AT m.2.2.2.2.2.length cT] 46)
  have hc : (w.alloc (.cells #[.string m.1, .int .i64 m.2.1, .slice AF m.2.2.1.length cF, .slice AL m.2.2.2.1.length cL, .slice AI m.2.2.2.2.1.length cI, .slice AT m.2.2.2.2.2.length cT] 46)).cell? ⟨w.heap.size, 1, none⟩ = some (.int .i64 m.2.1) := Go.Joins.cell_of_block (heap_alloc_new w _) 1
  clear hK
  go_enter Try.func55, Try.ntmps55
  go_wp2
  go_ret
  exact ⟨rfl, hc, hB⟩
set_option maxRecDepth 100000 in
theorem pieces1_any (f : FileD) (cs : List Value) (g : Nat) (pl : Int) (w : World) (hK : KFile.K w f cs) (hp : w.cell? ⟨g, 1, none⟩ = some (.int .i64 pl)) (hpl : pl ≠ 0) :
    Calls Try.prog 83 #[.agg cs.toArray, .pointer (some ⟨g, 0, none⟩)] w fun e w' => e = .returned (.int .i64 (cP f.2.1 pl)) ∧ Below w.heap.size w w' := by
  have hcs : cs[1]? = some (.int .i64 f.2.1) := by
    obtain ⟨P, p, M, q, rfl, _⟩ := file_open hK
    rfl
  have hc : (w.alloc (.cells cs.toArray 93)).cell? ⟨w.heap.size, 1, none⟩ = some (.int .i64 f.2.1) := (Go.Joins.cell_of_block (heap_alloc_new w _) 1).trans (by rw [List.getElem?_toArray]; exact hcs)
  have hB := below_alloc (Below.refl w.heap.size w) (.cells cs.toArray 93)
  have hp1 : (w.alloc (.cells cs.toArray 93)).cell? ⟨g, 1, none⟩ = some (.int .i64 pl) := cell_stay hB hp
  clear hK
  go_enter Try.func83, Try.ntmps83
  go_wp2_with fail
  go_at_call 68
  refine (create_parts.calls f.2.1 pl (cP f.2.1 pl) _ (by unfold create_parts.f cP; rw [if_neg hpl])).mono ?_
  rintro e w1 ⟨rfl, hb1⟩
  go_wp2
  go_ret
  exact ⟨rfl, below_step hB hb1⟩
set_option maxHeartbeats 2000000 in
set_option maxRecDepth 100000 in
theorem sum_any (A : Option Addr) (c : Nat) (fs : List FileD) (g : Nat) (pl : Int) (w : World) (hr : KFile.C w A fs.length fs) (hlen : fs.length * 88 ≤ 140737488351232) (hp : w.cell? ⟨g, 1, none⟩ = some (.int .i64 pl)) (hpl : pl ≠ 0) :
    Calls Try.prog 54 #[.slice A fs.length c, .func (.func 83) #[] #[.pointer (some ⟨g, 0, none⟩)]] w fun e w' => e = .returned (.int .i64 (csum pl fs 0)) ∧ Below w.heap.size w w' := by
  have HF := Aside0.mk hr
  have HP := Aside0.mk hp
  clear hr hp
  go_enter Try.func54, Try.ntmps54
  go_wp2
  go_loopw [5, 10] (fun s i wr => ∃ k : Nat, k ≤ fs.length ∧ i = .int .i64 k ∧ s = .int .i64 (csum pl (fs.take k) 0) ∧ Aside0 (Below w.heap.size w wr)) (fun s i _ => fs.length - (intOf i).toNat)
  case atStart => exact ⟨0, by omega, rfl, rfl, ⟨Below.refl _ _⟩⟩
  case round =>
    obtain ⟨k, hk, rfl, rfl, HB⟩ := hrel
    by_cases hlt : k < fs.length
    · skip
      obtain ⟨ad, cs, e0, hl35, hf, hcs⟩ := at_file HF.out k hlt
      subst e0
      change KFile.K w (fx fs k) cs at hf
      have hfs : fs.getD k f0 = fx fs k := rfl
      have HTK := Lib.hid hfs
      generalize fx fs k = f at *
      have hf' := hf
      obtain ⟨P, p, M, q, rfl, _⟩ := file_open hf
      have HY : Hid (∀ j u, (encF (.slice P f.1.length p) f.2.1 f.2.2.1 (.slice M f.2.2.2.length q))[j]? = some u → wr.cell? ((ad.add (k * 35)).add j) = some u) := Lib.hid fun j u hj => by
        rw [Go.Deep.add_add]
        exact cell_stay HB.out (hcs j u hj)
      have HK := Aside0.mk hf'
      have HS := Lib.hid (rfl : wr.heap.size = wr.heap.size)
      have HZ := Lib.hid (zF_hold (.slice P f.1.length p) f.2.1 f.2.2.1 (.slice M f.2.2.2.length q))
      clear hf hf' hcs hl35 hfs
      go_wp2_with (first | ((with_reducible refine Fl.wpList_load rfl 93 (.tmp 12) rfl (ad.add (k * 35)) ?lx (encF (.slice P f.1.length p) f.2.1 f.2.2.1 (.slice M f.2.2.2.length q)) _ ?lc Try.underlying93 rfl ?li ?_); (case lx => rfl); (case lc => exact HY.out); (case li => exact (sizeF (encF_len _ _ _ _)))) | ((with_reducible refine Fl.wpList_store_fresh rfl 93 (.tmp 7) (.tmp 13) rfl 93 _ (encF (.slice P f.1.length p) f.2.1 f.2.2.1 (.slice M f.2.2.2.length q)).toArray ?sx ?sy ?si ?so ?s1 ?_); (case sx => rfl); (case sy => rfl); (case si => exact (sizeF' (encF_len _ _ _ _))); (case so => exact HZ.out); (case s1 => exact Fl.all_one encF_one)) | ((with_reducible refine Fl.wpList_load_fresh rfl 93 (.tmp 7) rfl 93 (encF (.slice P f.1.length p) f.2.1 f.2.2.1 (.slice M f.2.2.2.length q)).toArray ?fx _ Try.underlying93 rfl ?fi ?_); (case fx => rfl); (case fi => exact (sizeF' (encF_len _ _ _ _)))))
      refine (pieces1_any f _ g pl _ (KFile.K_below (below_alloc HB.out _) HK.out) (cell_stay (below_alloc HB.out _) HP.out) hpl).mono ?_
      rintro e w2 ⟨rfl, hb2⟩
      have HB2 := Aside0.mk (below_step (below_alloc HB.out _) hb2)
      go_wp2
      go_roundw
      case rel => exact ⟨k + 1, by omega, by go_num, by rw [csum_take pl fs k 0 hlt, HTK.out], HB2⟩
      case measure => simp [intOf]; omega
    · go_wp2
      go_ret
      have : k = fs.length := by omega
      subst this
      exact ⟨by first | rfl | (rw [List.take_length]; rfl), HB.out⟩
set_option maxHeartbeats 2000000 in
set_option maxRecDepth 100000 in
theorem seek_any (A : Option Addr) (c : Nat) (fs : List FileD) (w : World) (hr : KFile.C w A fs.length fs) (hlen : fs.length * 88 ≤ 140737488351232) :
    Calls Try.prog 81 #[.slice A fs.length c, .func (.func 82) #[] #[]] w fun e w' => (∃ r : Int, e = .returned (.int .i64 r) ∧ (decide (r ≥ 0) = fs.any badLen)) ∧ Below w.heap.size w w' := by
  have HF := Aside0.mk hr
  clear hr
  go_enter Try.func81, Try.ntmps81
  go_wp2
  go_loopw [9] (fun i wr => ∃ k : Nat, k ≤ fs.length ∧ i = .int .i64 k ∧ Hid (∀ f ∈ fs.take k, badLen f = false) ∧ Aside0 (Below w.heap.size w wr)) (fun i _ => fs.length - (intOf i).toNat)
  case atStart => exact ⟨0, by omega, rfl, Lib.hid (by simp), ⟨Below.refl _ _⟩⟩
  case round =>
    obtain ⟨k, hk, rfl, HN, HB⟩ := hrel
    by_cases hlt : k < fs.length
    · have hmem : fs.getD k f0 ∈ fs := nth_mem f0 fs k hlt
      have htk : fs.take (k + 1) = fs.take k ++ [fs.getD k f0] := by rw [List.take_succ_eq_append_getElem hlt, List.getD_eq_getElem?_getD, List.getElem?_eq_getElem hlt]; rfl
      have HMM := Lib.hid hmem
      have HTT := Lib.hid htk
      clear hmem htk
      obtain ⟨ad, cs, e0, hl35, hf, hcs⟩ := at_file HF.out k hlt
      subst e0
      change KFile.K w (fx fs k) cs at hf
      have hfs : fs.getD k f0 = fx fs k := rfl
      have HTK := Lib.hid hfs
      generalize fx fs k = f at *
      have hf' := hf
      obtain ⟨P, p, M, q, rfl, _⟩ := file_open hf
      have HY : Hid (∀ j u, (encF (.slice P f.1.length p) f.2.1 f.2.2.1 (.slice M f.2.2.2.length q))[j]? = some u → wr.cell? ((ad.add (k * 35)).add j) = some u) := Lib.hid fun j u hj => by
        rw [Go.Deep.add_add]
        exact cell_stay HB.out (hcs j u hj)
      have HK := Aside0.mk hf'
      have HS := Lib.hid (rfl : wr.heap.size = wr.heap.size)
      have HZ := Lib.hid (zF_hold (.slice P f.1.length p) f.2.1 f.2.2.1 (.slice M f.2.2.2.length q))
      clear hf hf' hcs hl35 hfs
      rw [HTK.out] at HMM HTT
      go_wp2_with (first | ((with_reducible refine Fl.wpList_load rfl 93 (.tmp 12) rfl (ad.add (k * 35)) ?lx (encF (.slice P f.1.length p) f.2.1 f.2.2.1 (.slice M f.2.2.2.length q)) _ ?lc Try.underlying93 rfl ?li ?_); (case lx => rfl); (case lc => exact HY.out); (case li => exact (sizeF (encF_len _ _ _ _)))) | ((with_reducible refine Fl.wpList_store_fresh rfl 93 (.tmp 6) (.tmp 13) rfl 93 _ (encF (.slice P f.1.length p) f.2.1 f.2.2.1 (.slice M f.2.2.2.length q)).toArray ?sx ?sy ?si ?so ?s1 ?_); (case sx => rfl); (case sy => rfl); (case si => exact (sizeF' (encF_len _ _ _ _))); (case so => exact HZ.out); (case s1 => exact Fl.all_one encF_one)) | ((with_reducible refine Fl.wpList_load_fresh rfl 93 (.tmp 6) rfl 93 (encF (.slice P f.1.length p) f.2.1 f.2.2.1 (.slice M f.2.2.2.length q)).toArray ?fx _ Try.underlying93 rfl ?fi ?_); (case fx => rfl); (case fi => exact (sizeF' (encF_len _ _ _ _)))))
      refine (fault1_any f _ _ (KFile.K_below (below_alloc HB.out _) HK.out)).mono ?_
      rintro e w2 ⟨rfl, hb2⟩
      have HB2 := Aside0.mk (below_step (below_alloc HB.out _) hb2)
      cases hbad : badLen f with
      | true =>
        go_wp2
        go_ret
        exact ⟨⟨k, rfl, by rw [decide_eq_true (by omega : (k : Int) ≥ 0)]; exact (List.any_eq_true.2 ⟨f, HMM.out, hbad⟩).symm⟩, HB2.out⟩
      | false =>
        go_wp2
        go_roundw
        case rel => exact ⟨k + 1, by omega, by go_num, Lib.hid (by rw [HTT.out]; intro x hx; rcases List.mem_append.1 hx with hx | hx; exact HN.out x hx; rw [List.mem_singleton.1 hx]; exact hbad), HB2⟩
        case measure => simp [intOf]; omega
    · go_wp2
      go_ret
      have : k = fs.length := by omega
      subst this
      exact ⟨⟨-1, rfl, by
        have h := HN.out
        rw [List.take_length] at h
        rw [decide_eq_false (by decide : ¬ (-1 : Int) ≥ 0)]
        exact (List.any_eq_false.2 fun x hx => by rw [h x hx]; exact Bool.false_ne_true).symm⟩, HB.out⟩

end Cr
end Go.Proofs.Ytjeeakhgjcbhaaa
set_option linter.unusedVariables false
set_option linter.unusedSimpArgs false
namespace Go.Proofs.Ytjeeakhgjcbhaaa
open Go.RowKit Go.Proofs.YtjeeakhgjcbhaaaW.PrintWords
namespace P2
theorem ofInt_i64 (a : Nat) (ha : a < 9223372036854775808) : (BitVec.ofInt 64 (a : Int)).toNat = a := by
  rw [BitVec.ofInt_natCast, BitVec.toNat_ofNat]; exact Nat.mod_eq_of_lt (by omega)
theorem i64_and_nat (a b : Nat) (ha : a < 9223372036854775808) (hb : b < 9223372036854775808) : Go.bits .and .i64 (a : Int) (b : Int) = ((a &&& b : Nat) : Int) := by
  have hx : a &&& b < 2 ^ 63 := Nat.and_lt_two_pow _ (by omega)
  show IntKind.i64.wrap ((BitVec.ofInt 64 (a : Int) &&& BitVec.ofInt 64 (b : Int)).toNat : Int) = _
  rw [BitVec.toNat_and, ofInt_i64 a ha, ofInt_i64 b hb, IntKind.wrap_i64]
  omega
/-- The powers of two from 2^lo on, n of them. -/
def pows (lo n : Nat) : List Int := (List.range n).map fun k => (((2 ^ (lo + k) : Nat)) : Int)
def powB (lo n : Nat) (x : Int) : Bool := (pows lo n).any fun p => x == p
theorem powB_iff (lo n : Nat) (x : Int) : powB lo n x = true ↔ ∃ k, k < n ∧ x = ((2 ^ (lo + k) : Nat) : Int) := by
  unfold powB pows
  simp only [List.any_map, List.any_eq_true, List.mem_range, Function.comp, beq_iff_eq]
/-- A number from 2^lo to 2^hi is a power of two just if 'n & (n - 1)' is none. -/
theorem and_pow (lo n : Nat) (hn : lo + n ≤ 62) (hn0 : 0 < n) (x : Int) (h1 : ((2 ^ lo : Nat) : Int) ≤ x) (h2 : x ≤ ((2 ^ (lo + (n - 1)) : Nat) : Int)) : (Go.bits .and .i64 x (x - 1) != 0) = !powB lo n x := by
  obtain ⟨a, rfl⟩ : ∃ a : Nat, x = a := ⟨x.toNat, by have := Nat.two_pow_pos lo; omega⟩
  have h1' : 2 ^ lo ≤ a := by exact_mod_cast h1
  have h2' : a ≤ 2 ^ (lo + (n - 1)) := by exact_mod_cast h2
  have hp := Nat.two_pow_pos lo
  have hlt : 2 ^ (lo + (n - 1)) < 2 ^ 62 := Nat.pow_lt_pow_right (by omega) (by omega)
  have e : ((a : Int) - 1) = ((a - 1 : Nat) : Int) := by omega
  rw [e, i64_and_nat a (a - 1) (by omega) (by omega)]
  have key := Nat.and_sub_one_eq_zero_iff_isPowerOfTwo (n := a) (by omega)
  rw [Bool.eq_iff_iff]
  simp only [bne_iff_ne, ne_eq, Bool.not_eq_true', ← Bool.not_eq_true, powB_iff]
  have hz : (((a &&& (a - 1) : Nat) : Int) = 0) ↔ (a &&& (a - 1)) = 0 := by omega
  rw [hz, key]
  refine not_congr ⟨?_, ?_⟩
  · rintro ⟨k, rfl⟩
    have k1 : lo ≤ k := (Nat.pow_le_pow_iff_right (by omega)).1 h1'
    have k2 : k ≤ lo + (n - 1) := (Nat.pow_le_pow_iff_right (by omega)).1 h2'
    exact ⟨k - lo, by omega, by rw [show lo + (k - lo) = k by omega]⟩
  · rintro ⟨k, _, h⟩
    exact ⟨lo + k, by exact_mod_cast h⟩
theorem powB_lo {lo n : Nat} {x : Int} (h : x < ((2 ^ lo : Nat) : Int)) : powB lo n x = false := by
  rw [← Bool.not_eq_true, powB_iff]
  rintro ⟨k, _, rfl⟩
  have : 2 ^ lo ≤ 2 ^ (lo + k) := Nat.pow_le_pow_right (by omega) (by omega)
  omega
theorem powB_hi {lo n : Nat} {x : Int} (h : ((2 ^ (lo + (n - 1)) : Nat) : Int) < x) : powB lo n x = false := by
  rw [← Bool.not_eq_true, powB_iff]
  rintro ⟨k, hk, rfl⟩
  have : 2 ^ (lo + k) ≤ 2 ^ (lo + (n - 1)) := Nat.pow_le_pow_right (by omega) (by omega)
  omega
/-- A scale that may be: 0; else 10. -/
def scE (b wd : Int) : Int := if powB 6 9 b = true ∧ 1 ≤ wd ∧ wd ≤ 32 then 0 else 10
end P2
end Go.Proofs.Ytjeeakhgjcbhaaa
set_option linter.unusedVariables false
set_option linter.unusedSimpArgs false
namespace Go.Proofs.Ytjeeakhgjcbhaaa
open Go.RowKit Go.Proofs.YtjeeakhgjcbhaaaW.PrintWords Go.Proofs.YtjeeakhgjcbhaaaW Go.Proofs.YtjeeakhgjcbhaaaW.PrintMore
namespace Cr
open Wd Vl Mt PCreateBlocks
/-- A piece length that may be. -/
def goodPL (x : Int) : Bool := P2.powB 6 19 x
/-- What hinders that a metainfo is mapped. -/
def cfault (m : MetaD) : Int := if goodPL m.2.1 = false then 83 else if m.2.2.1.length = 0 then 84 else if m.2.2.1.length > 4096 then 58 else if m.2.2.1.any badLen = true then 85 else if csum m.2.1 m.2.2.1 0 > 65536 then 58 else 0
theorem ret_eq {x y : Int} (h : y = x) : Ending.returned (.int .i64 x) = Ending.returned (.int .i64 y) := by rw [h]
theorem goodPL_ne {x : Int} (h : goodPL x = true) : x ≠ 0 := by
  obtain ⟨k, hk, rfl⟩ := (P2.powB_iff 6 19 x).1 h
  have := Nat.two_pow_pos (6 + k)
  omega
set_option maxHeartbeats 4000000 in
set_option maxRecDepth 100000 in
theorem fault_any (m : MetaD) (cs : List Value) (w : World) (hK : KMeta.K w m cs) (hG : GMeta m) :
    Calls Try.prog 53 #[.agg cs.toArray] w fun e w' => e = .returned (.int .i64 (cfault m)) ∧ Below w.heap.size w w' := by
  obtain ⟨AF, cF, AL, cL, AI, cI, AT, cT, rfl, hF, _⟩ := meta_open hK
  have q1 : m.2.2.1.length * 88 ≤ 140737488351232 := hG.2.1.1
  have HF := Aside0.mk hF
  have HK := Aside0.mk hK
  have HB0 : Aside0 (Below w.heap.size w (w.alloc (.cells #[.string m.1, .int .i64 m.2.1, .slice AF m.2.2.1.length cF, .slice AL m.2.2.2.1.length cL, .slice AI m.2.2.2.2.1.length cI, .slice AT m.2.2.2.2.2.length cT] 46))) := ⟨below_alloc (Below.refl w.heap.size w) (.cells #[.string m.1, .int .i64 m.2.1, .slice AF m.2.2.1.length cF, .slice AL m.2.2.2.1.length cL, .slice AI m.2.2.2.2.1.length cI, .slice AT m.2.2.2.2.2.length cT] 46)⟩
  have HX0 : Aside0 ((w.alloc (.cells #[.string m.1, .int .i64 m.2.1, .slice AF m.2.2.1.length cF, .slice AL m.2.2.2.1.length cL, .slice AI m.2.2.2.2.1.length cI, .slice AT m.2.2.2.2.2.length cT] 46)).heap[w.heap.size]? = some (.cells #[.string m.1, .int .i64 m.2.1, .slice AF m.2.2.1.length cF, .slice AL m.2.2.2.1.length cL, .slice AI m.2.2.2.2.1.length cI, .slice AT m.2.2.2.2.2.length cT] 46)) := ⟨heap_alloc_new w _⟩
  have hx1 : (w.alloc (.cells #[.string m.1, .int .i64 m.2.1, .slice AF m.2.2.1.length cF, .slice AL m.2.2.2.1.length cL, .slice AI m.2.2.2.2.1.length cI, .slice AT m.2.2.2.2.2.length cT] 46)).cell? ⟨w.heap.size, 1, none⟩ = some (.int .i64 m.2.1) := Go.Joins.cell_of_block HX0.out 1
  have hx2 : (w.alloc (.cells #[.string m.1, .int .i64 m.2.1, .slice AF m.2.2.1.length cF, .slice AL m.2.2.2.1.length cL, .slice AI m.2.2.2.2.1.length cI, .slice AT m.2.2.2.2.2.length cT] 46)).cell? ⟨w.heap.size, 2, none⟩ = some (.slice AF m.2.2.1.length cF) := Go.Joins.cell_of_block HX0.out 2
  clear hF hK hG
  go_enter Try.func53, Try.ntmps53
  by_cases hg : goodPL m.2.1 = false
  · have e1 : cfault m = 83 := by unfold cfault; rw [if_pos hg]
    rw [e1]
    by_cases h1 : m.2.1 < 64
    · have b1 : decide (m.2.1 < 64) = true := decide_eq_true h1
      go_wp2
      go_ret
      exact ⟨rfl, HB0.out⟩
    · have b1 : decide (m.2.1 < 64) = false := decide_eq_false h1
      by_cases h2 : m.2.1 > 16777216
      · have b2 : decide (m.2.1 > 16777216) = true := decide_eq_true h2
        go_wp2
        go_ret
        exact ⟨rfl, HB0.out⟩
      · have b2 : decide (m.2.1 > 16777216) = false := decide_eq_false h2
        have b3 := P2.and_pow 6 19 (by omega) (by omega) m.2.1 (by omega) (by omega)
        change _ = !goodPL m.2.1 at b3
        rw [hg] at b3
        go_wp2
        go_ret
        exact ⟨rfl, HB0.out⟩
  · have hg' : goodPL m.2.1 = true := by simpa using hg
    have hpl := goodPL_ne hg'
    have h1 : ¬ m.2.1 < 64 := fun h => hg (P2.powB_lo (lo := 6) (n := 19) h)
    have h2 : ¬ m.2.1 > 16777216 := fun h => hg (P2.powB_hi (lo := 6) (n := 19) h)
    have b1 : decide (m.2.1 < 64) = false := decide_eq_false h1
    have b2 : decide (m.2.1 > 16777216) = false := decide_eq_false h2
    have b3 := P2.and_pow 6 19 (by omega) (by omega) m.2.1 (by omega) (by omega)
    change _ = !goodPL m.2.1 at b3
    rw [hg'] at b3
    by_cases h4 : m.2.2.1.length = 0
    · have e1 : cfault m = 84 := by unfold cfault; rw [if_neg hg, if_pos h4]
      rw [e1]
      have b4 : ((m.2.2.1.length : Int) == 0) = true := by simp [h4]
      clear h4
      go_wp2
      go_ret
      exact ⟨rfl, HB0.out⟩
    · by_cases h5 : m.2.2.1.length > 4096
      · have e1 : cfault m = 58 := by unfold cfault; rw [if_neg hg, if_neg h4, if_pos h5]
        rw [e1]
        go_wp2
        go_ret
        exact ⟨rfl, HB0.out⟩
      · go_wp2_with fail
        go_at_call 81
        refine (seek_any AF cF m.2.2.1 _ (Kd.C_below HF.out HB0.out) q1).mono ?_
        rintro e wr ⟨⟨r, rfl, hr⟩, hb1⟩
        have HX := Aside0.mk (blk_below HX0.out hb1)
        have HB := Aside0.mk (below_step HB0.out hb1)
        clear hx1 hx2 hb1 HX0 HB0
        have hx2 : wr.cell? ⟨w.heap.size, 2, none⟩ = some (.slice AF m.2.2.1.length cF) := Go.Joins.cell_of_block HX.out 2
        cases hany : m.2.2.1.any badLen with
        | true =>
          rw [hany] at hr
          have e1 : cfault m = 85 := by unfold cfault; rw [if_neg hg, if_neg h4, if_neg h5, if_pos hany]
          go_wp2
          go_ret
          exact ⟨ret_eq e1, HB.out⟩
        | false =>
          rw [hany] at hr
          go_upto_region 9 with fail
          refine PrintLast.start_ (n := 7) (S := fun w' => Below wr.heap.size wr w') (ds := []) #[false, false, false, false, false, false, false] (by kernel_rfl) rfl rfl (below_drew1 (Below.refl _ _)) (fun hHeld => ?_)
          generalize wr.drew = W0 at *
          refine PrintLast.pure_ (i := 0) (N := some 37) (v := ?_) (a' := ?_) #[true, false, false, false, false, false, false] rfl rfl (by kernel_rfl) (fun _ _ _ h => h) (Or.inl ⟨by rfl, ?_⟩) ?_ ?_
          rotate_left
          · intro w'
            go_simp
            with_reducible rfl
          rotate_left
          · simp only [Act.put, List.setIfInBounds_toArray, List.set_cons_zero, List.set_cons_succ]
            rfl
          refine PrintLast.take_ (i := 1) (N := some 38) (v := ?_) (a' := ?_) #[true, true, false, false, false, false, false] rfl rfl (by kernel_rfl) (fun _ _ _ h => h) (Or.inl ⟨by rfl, ?_⟩) hHeld ?_ ?_
          rotate_left
          · intro w' s0
            (have g1 := cell_stay s0 hx2; go_simp; with_reducible rfl)
          rotate_left
          · simp only [Act.put, List.setIfInBounds_toArray, List.set_cons_zero, List.set_cons_succ]
            rfl
          refine PrintLast.take_ (i := 2) (N := some 39) (v := .agg (#[.string m.1, .int .i64 m.2.1, .slice AF m.2.2.1.length cF, .slice AL m.2.2.2.1.length cL, .slice AI m.2.2.2.2.1.length cI, .slice AT m.2.2.2.2.2.length cT] : Array Value)) (a' := ?_) #[true, true, true, false, false, false, false] rfl rfl (by kernel_rfl) (fun _ _ _ h => h) (Or.inl ⟨by rfl, ?_⟩) hHeld ?_ ?_
          skip
          · intro w' s0
            exact Fl.exec_load (ty := 46) (x := .tmp 1) (ad := ⟨w.heap.size, 0, none⟩) (cs := (#[.string m.1, .int .i64 m.2.1, .slice AF m.2.2.1.length cF, .slice AL m.2.2.2.1.length cL, .slice AI m.2.2.2.2.1.length cI, .slice AT m.2.2.2.2.2.length cT] : Array Value)) (by rfl) (by rfl) (Fl.run_load (cs := [.string m.1, .int .i64 m.2.1, .slice AF m.2.2.1.length cF, .slice AL m.2.2.2.1.length cL, .slice AI m.2.2.2.2.1.length cI, .slice AT m.2.2.2.2.2.length cT]) (fun j u hj => cell_stay s0 (by rw [Go.WideShapes.add_plain, Go.Joins.cell_of_block HX.out, List.getElem?_toArray, Nat.zero_add]; exact hj)) Try.underlying46 rfl (by kernel_rfl))
          rotate_left
          · simp only [Act.put, List.setIfInBounds_toArray, List.set_cons_zero, List.set_cons_succ]
            rfl
          refine PrintLast.one_ (i := 3) (N := some 40) #[true, true, true, true, false, false, false] rfl rfl (by kernel_rfl) (by decide) (fun K hK => ?_)
          refine PrintLast.goes_ Try.func55 (by kernel_rfl) rfl #[.agg (#[.string m.1, .int .i64 m.2.1, .slice AF m.2.2.1.length cF, .slice AL m.2.2.2.1.length cL, .slice AI m.2.2.2.2.1.length cI, .slice AT m.2.2.2.2.2.length cT] : Array Value)] (by rfl) rfl rfl (by simp only [List.map_toArray, List.map_cons, List.map_nil]; rfl) ?_
          refine (pieces_any m _ _ (KMeta.K_below (below_step HB.out hHeld) HK.out)).mono ?_
          rintro e W1 ⟨rfl, hpc, hst⟩
          have hst1 := below_step hHeld hst
          refine ⟨_, rfl, ?_⟩
          refine hK.out _ _ hst1 (fun hHeld => ?_)
          clear hK K
          refine PrintLast.norm_ (a' := ?_) ?_ ?_
          rotate_left
          · show Act.put _ (some 40) _ = _
            simp only [Act.put, List.setIfInBounds_toArray, List.set_cons_zero, List.set_cons_succ]
            rfl
          clear hst
          obtain ⟨gp, hgp⟩ : ∃ gp, gp = W0.heap.size := ⟨_, rfl⟩
          rw [← hgp] at hpc ⊢
          clear hgp
          refine PrintLast.one_ (i := 4) (N := some 41) #[true, true, true, true, true, false, false] rfl rfl (by kernel_rfl) (by decide) (fun K hK => ?_)
          refine PrintLast.goes_ Try.func54 (by kernel_rfl) rfl #[.slice AF m.2.2.1.length cF, .func (.func 83) #[] #[.pointer (some ⟨gp, 0, none⟩)]] (by rfl) rfl rfl (by simp only [List.map_toArray, List.map_cons, List.map_nil]; rfl) ?_
          refine (sum_any AF cF m.2.2.1 gp m.2.1 _ (Kd.C_below HF.out (below_step HB.out hHeld)) q1 hpc hpl).mono ?_
          rintro e W2 ⟨rfl, hst⟩
          have hst2 := below_step hHeld hst
          refine ⟨_, rfl, ?_⟩
          refine hK.out _ _ hst2 (fun hHeld => ?_)
          clear hK K
          refine PrintLast.norm_ (a' := ?_) ?_ ?_
          rotate_left
          · show Act.put _ (some 41) _ = _
            simp only [Act.put, List.setIfInBounds_toArray, List.set_cons_zero, List.set_cons_succ]
            rfl
          clear hst
          refine PrintLast.pure_ (i := 5) (N := some 42) (v := ?_) (a' := ?_) #[true, true, true, true, true, true, false] rfl rfl (by kernel_rfl) (fun _ _ _ h => h) (Or.inl ⟨by rfl, ?_⟩) ?_ ?_
          rotate_left
          · intro w'
            go_simp
            with_reducible rfl
          rotate_left
          · simp only [Act.put, List.setIfInBounds_toArray, List.set_cons_zero, List.set_cons_succ]
            rfl
          refine PrintLast.pure_ (i := 6) (N := some 36) (v := ?_) (a' := ?_) #[true, true, true, true, true, true, true] rfl rfl (by kernel_rfl) (fun _ _ _ h => h) (Or.inl ⟨by rfl, ?_⟩) ?_ ?_
          rotate_left
          · intro w'
            go_simp
            with_reducible rfl
          rotate_left
          · simp only [Act.put, List.setIfInBounds_toArray, List.set_cons_zero, List.set_cons_succ]
            rfl
          refine PrintLast.done_ (by kernel_rfl) ?_
          by_cases h6 : csum m.2.1 m.2.2.1 0 > 65536
          · have e1 : cfault m = 58 := by unfold cfault; rw [if_neg hg, if_neg h4, if_neg h5, if_neg (by rw [hany]; exact Bool.false_ne_true), if_pos h6]
            have b6 : decide (csum m.2.1 m.2.2.1 0 > 65536) = true := decide_eq_true h6
            go_wp2
            go_ret
            exact ⟨by first | exact ret_eq e1 | rfl, below_step HB.out hHeld⟩
          · have e1 : cfault m = 0 := by unfold cfault; rw [if_neg hg, if_neg h4, if_neg h5, if_neg (by rw [hany]; exact Bool.false_ne_true), if_neg h6]
            have b6 : decide (csum m.2.1 m.2.2.1 0 > 65536) = false := decide_eq_false h6
            go_wp2
            go_ret
            exact ⟨by first | exact ret_eq e1 | rfl, below_step HB.out hHeld⟩
end Cr
end Go.Proofs.Ytjeeakhgjcbhaaa
set_option linter.unusedVariables false
set_option linter.unusedSimpArgs false
namespace Go.Proofs.Ytjeeakhgjcbhaaa
open Go.RowKit Go.Proofs.YtjeeakhgjcbhaaaW.PrintWords Go.Proofs.YtjeeakhgjcbhaaaW Go.Proofs.YtjeeakhgjcbhaaaW.PrintMore
namespace Cr
open Wd Vl Mt PCreateBlocks
theorem pieceLen_go (x : Int) : ∀ (n lo : Nat), lo + n = 25 → 0 < lo → torrentref9_pieceLen.l0 (n + 1) x ((2 ^ lo : Nat) : Int) = some (P2.powB lo n x)
  | 0, lo, h, _ => by
    obtain rfl : lo = 25 := by omega
    have hb : P2.powB 25 0 x = false := rfl
    rw [hb]
    unfold torrentref9_pieceLen.l0
    rw [if_neg (by decide)]
  | n + 1, lo, h, h0 => by
    have hle : 2 ^ lo ≤ 2 ^ 24 := Nat.pow_le_pow_right (by omega) (by omega)
    have hnext : wrap64 (2 * ((2 ^ lo : Nat) : Int)) = ((2 ^ (lo + 1) : Nat) : Int) := by
      rw [Nat.pow_succ]; unfold wrap64; omega
    unfold torrentref9_pieceLen.l0
    rw [if_pos (by omega)]
    by_cases hx : x = ((2 ^ lo : Nat) : Int)
    · rw [if_pos hx]
      exact congrArg some ((P2.powB_iff lo (n + 1) x).2 ⟨0, by omega, hx⟩).symm
    · rw [if_neg hx, hnext, pieceLen_go x n (lo + 1) (by omega) (by omega)]
      refine congrArg some ?_
      rw [Bool.eq_iff_iff, P2.powB_iff, P2.powB_iff]
      constructor
      · rintro ⟨k, hk, rfl⟩
        exact ⟨k + 1, by omega, by rw [show lo + (k + 1) = lo + 1 + k by omega]⟩
      · rintro ⟨k, hk, he⟩
        cases k with
        | zero => exact absurd he hx
        | succ k => exact ⟨k, by omega, by rw [he, show lo + (k + 1) = lo + 1 + k by omega]⟩
theorem pieceLen_spec (x : Int) : torrentref9_pieceLen.f 20 x = some (goodPL x) := pieceLen_go x 19 6 rfl (by omega)
theorem goodPL_pos {x : Int} (h : goodPL x = true) : 0 < x := by
  obtain ⟨k, hk, rfl⟩ := (P2.powB_iff 6 19 x).1 h
  have := Nat.two_pow_pos (6 + k)
  omega
theorem parts_spec {n pl : Int} (hn : 0 ≤ n) (hp : 0 < pl) : torrentref9_parts.f n pl = some (cP n pl) := by
  have hm : 0 ≤ Int.tmod n pl := Int.tmod_nonneg _ hn
  unfold torrentref9_parts.f cP mn
  rw [if_neg (by omega)]
  generalize Int.tmod n pl = r at *
  by_cases h : r > 0
  · rw [if_pos h]
    by_cases h1 : 1 < r
    · rw [if_pos h1]
    · rw [if_neg h1, show r = 1 by omega]
  · rw [if_neg h, if_neg (by omega), show r = 0 by omega]
    congr 1
    unfold wrap64
    omega
set_option maxHeartbeats 4000000 in
set_option maxRecDepth 100000 in
theorem refFault_any (m : MetaD) (cs : List Value) (w : World) (hK : KMeta.K w m cs) (hG : GMeta m) :
    Calls Try.prog 56 #[.agg cs.toArray] w fun e w' => e = .returned (.int .i64 (cfault m)) ∧ Below w.heap.size w w' := by
  obtain ⟨AF, cF, AL, cL, AI, cI, AT, cT, rfl, hF, _⟩ := meta_open hK
  have q1 : m.2.2.1.length * 88 ≤ 140737488351232 := hG.2.1.1
  have HF := Aside0.mk hF
  have HB0 : Aside0 (Below w.heap.size w (w.alloc (.cells #[.string m.1, .int .i64 m.2.1, .slice AF m.2.2.1.length cF, .slice AL m.2.2.2.1.length cL, .slice AI m.2.2.2.2.1.length cI, .slice AT m.2.2.2.2.2.length cT] 46))) := ⟨below_alloc (Below.refl w.heap.size w) (.cells #[.string m.1, .int .i64 m.2.1, .slice AF m.2.2.1.length cF, .slice AL m.2.2.2.1.length cL, .slice AI m.2.2.2.2.1.length cI, .slice AT m.2.2.2.2.2.length cT] 46)⟩
  have HX0 : Aside0 ((w.alloc (.cells #[.string m.1, .int .i64 m.2.1, .slice AF m.2.2.1.length cF, .slice AL m.2.2.2.1.length cL, .slice AI m.2.2.2.2.1.length cI, .slice AT m.2.2.2.2.2.length cT] 46)).heap[w.heap.size]? = some (.cells #[.string m.1, .int .i64 m.2.1, .slice AF m.2.2.1.length cF, .slice AL m.2.2.2.1.length cL, .slice AI m.2.2.2.2.1.length cI, .slice AT m.2.2.2.2.2.length cT] 46)) := ⟨heap_alloc_new w _⟩
  have hx1 : (w.alloc (.cells #[.string m.1, .int .i64 m.2.1, .slice AF m.2.2.1.length cF, .slice AL m.2.2.2.1.length cL, .slice AI m.2.2.2.2.1.length cI, .slice AT m.2.2.2.2.2.length cT] 46)).cell? ⟨w.heap.size, 1, none⟩ = some (.int .i64 m.2.1) := Go.Joins.cell_of_block HX0.out 1
  clear hF hK hG
  go_enter Try.func56, Try.ntmps56
  go_wp2_with fail
  go_at_call 84
  refine (torrentref9_pieceLen.calls 20 m.2.1 (goodPL m.2.1) _ (pieceLen_spec m.2.1)).mono ?_
  rintro e w1 ⟨rfl, q, rfl⟩
  have HX : Aside0 (((w.alloc (.cells #[.string m.1, .int .i64 m.2.1, .slice AF m.2.2.1.length cF, .slice AL m.2.2.2.1.length cL, .slice AI m.2.2.2.2.1.length cI, .slice AT m.2.2.2.2.2.length cT] 46)).drewN q).heap[w.heap.size]? = some (.cells #[.string m.1, .int .i64 m.2.1, .slice AF m.2.2.1.length cF, .slice AL m.2.2.2.1.length cL, .slice AI m.2.2.2.2.1.length cI, .slice AT m.2.2.2.2.2.length cT] 46)) := ⟨blk_drewN HX0.out q⟩
  have HB : Aside0 (Below w.heap.size w ((w.alloc (.cells #[.string m.1, .int .i64 m.2.1, .slice AF m.2.2.1.length cF, .slice AL m.2.2.2.1.length cL, .slice AI m.2.2.2.2.1.length cI, .slice AT m.2.2.2.2.2.length cT] 46)).drewN q)) := ⟨below_drewN HB0.out q⟩
  clear hx1 HX0 HB0
  generalize (w.alloc (.cells #[.string m.1, .int .i64 m.2.1, .slice AF m.2.2.1.length cF, .slice AL m.2.2.2.1.length cL, .slice AI m.2.2.2.2.1.length cI, .slice AT m.2.2.2.2.2.length cT] 46)).drewN q = wr at *
  have hx2 : wr.cell? ⟨w.heap.size, 2, none⟩ = some (.slice AF m.2.2.1.length cF) := Go.Joins.cell_of_block HX.out 2
  cases hg : goodPL m.2.1 with
  | false =>
    have e1 : cfault m = 83 := by unfold cfault; rw [if_pos hg]
    go_wp2
    go_ret
    exact ⟨by first | exact ret_eq e1 | rfl, HB.out⟩
  | true =>
    have hg' : ¬ goodPL m.2.1 = false := by rw [hg]; decide
    have hpp := goodPL_pos hg
    by_cases h4 : m.2.2.1.length = 0
    · have e1 : cfault m = 84 := by unfold cfault; rw [if_neg hg', if_pos h4]
      have b4 : ((m.2.2.1.length : Int) == 0) = true := by simp [h4]
      clear h4
      go_wp2
      go_ret
      exact ⟨by first | exact ret_eq e1 | rfl, HB.out⟩
    · by_cases h5 : m.2.2.1.length > 4096
      · have e1 : cfault m = 58 := by unfold cfault; rw [if_neg hg', if_neg h4, if_pos h5]
        go_wp2
        go_ret
        exact ⟨by first | exact ret_eq e1 | rfl, HB.out⟩
      · go_wp2
        go_loopw [4, 5] (fun s i wz => ∃ k : Nat, k ≤ m.2.2.1.length ∧ i = .int .i64 k ∧ s = .int .i64 (csum m.2.1 (m.2.2.1.take k) 0) ∧ Hid (∀ f ∈ m.2.2.1.take k, badLen f = false) ∧ Aside0 (wz.heap[w.heap.size]? = some (.cells #[.string m.1, .int .i64 m.2.1, .slice AF m.2.2.1.length cF, .slice AL m.2.2.2.1.length cL, .slice AI m.2.2.2.2.1.length cI, .slice AT m.2.2.2.2.2.length cT] 46)) ∧ Aside0 (Below w.heap.size w wz)) (fun s i _ => m.2.2.1.length - (intOf i).toNat)
        case atStart => exact ⟨0, by omega, rfl, rfl, Lib.hid (by simp), HX, HB⟩
        case round =>
          clear HX HB hx2
          obtain ⟨k, hk, rfl, rfl, HN, HX, HB⟩ := hrel
          have hx1 : wr.cell? ⟨w.heap.size, 1, none⟩ = some (.int .i64 m.2.1) := Go.Joins.cell_of_block HX.out 1
          have hx2 : wr.cell? ⟨w.heap.size, 2, none⟩ = some (.slice AF m.2.2.1.length cF) := Go.Joins.cell_of_block HX.out 2
          by_cases hlt : k < m.2.2.1.length
          · have hmem : m.2.2.1.getD k f0 ∈ m.2.2.1 := nth_mem f0 m.2.2.1 k hlt
            have htk : m.2.2.1.take (k + 1) = m.2.2.1.take k ++ [m.2.2.1.getD k f0] := by rw [List.take_succ_eq_append_getElem hlt, List.getD_eq_getElem?_getD, List.getElem?_eq_getElem hlt]; rfl
            have hcs1 := csum_take m.2.1 m.2.2.1 k 0 hlt
            obtain ⟨ad, cs, e0, hl35, hfk, hcs⟩ := at_file HF.out k hlt
            rw [e0] at hx2
            change KFile.K w (m.2.2.1.getD k f0) cs at hfk
            generalize m.2.2.1.getD k f0 = f at *
            have hy1 : wr.cell? ⟨(ad.add (k * 35)).block, (ad.add (k * 35)).off + 1, none⟩ = some (.int .i64 f.2.1) := cell_stay HB.out (Fl.fcell 1 (by omega) (hcs 1 _ (by obtain ⟨P, p, MM, q, rfl, _⟩ := file_open hfk; rfl)))
            have HMM := Lib.hid hmem
            have HTT := Lib.hid htk
            have HCS := Lib.hid hcs1
            clear hmem htk hcs1 e0 hl35 hfk hcs
            by_cases h6 : f.2.1 < 0
            · have b6 : decide (f.2.1 < 0) = true := decide_eq_true h6
              have e1 : cfault m = 85 := by
                unfold cfault
                rw [if_neg hg', if_neg h4, if_neg h5, if_pos (List.any_eq_true.2 ⟨f, HMM.out, by unfold badLen; rw [b6]; rfl⟩)]
              go_wp2
              go_ret
              exact ⟨by first | exact ret_eq e1 | rfl, HB.out⟩
            · have b6 : decide (f.2.1 < 0) = false := decide_eq_false h6
              by_cases h7 : f.2.1 > 1099511627776
              · have b7 : decide (f.2.1 > 1099511627776) = true := decide_eq_true h7
                have e1 : cfault m = 85 := by
                  unfold cfault
                  rw [if_neg hg', if_neg h4, if_neg h5, if_pos (List.any_eq_true.2 ⟨f, HMM.out, by unfold badLen; rw [b7]; simp⟩)]
                go_wp2
                go_ret
                exact ⟨by first | exact ret_eq e1 | rfl, HB.out⟩
              · have b7 : decide (f.2.1 > 1099511627776) = false := decide_eq_false h7
                have HPA : Hid (∀ W, Calls Try.prog 85 #[.int .i64 f.2.1, .int .i64 m.2.1] W fun e w' => e = .returned (.int .i64 (cP f.2.1 m.2.1)) ∧ ∃ k, w' = W.drewN k) := Lib.hid fun W => (torrentref9_parts.calls f.2.1 m.2.1 _ W (parts_spec (by omega) hpp)).mono fun e w' h => by obtain ⟨h1, k, h2⟩ := h; exact ⟨h1, k, h2⟩
                go_upto_region 14 with fail
                go_quiet ((go_at_call 85; exact Calls.quiet_of (HPA.out _)))
                go_wp2
                go_roundw
                case rel => exact ⟨k + 1, by omega, by go_num, by rw [HCS.out], Lib.hid (by rw [HTT.out]; intro x hx; rcases List.mem_append.1 hx with hx | hx; exact HN.out x hx; rw [List.mem_singleton.1 hx]; unfold badLen; rw [b6, b7]; rfl), ⟨blk_drewN HX.out _⟩, ⟨below_drewN HB.out _⟩⟩
                case measure => simp [intOf]; omega
          · have ek : k = m.2.2.1.length := by omega
            have hany : m.2.2.1.any badLen = false := List.any_eq_false.2 fun x hx => by
              have h := HN.out x (by rw [ek, List.take_length]; exact hx)
              rw [h]; exact Bool.false_ne_true
            have ht : m.2.2.1.take k = m.2.2.1 := by rw [ek, List.take_length]
            rw [ht]
            by_cases h6 : csum m.2.1 m.2.2.1 0 > 65536
            · have b6 : decide (csum m.2.1 m.2.2.1 0 > 65536) = true := decide_eq_true h6
              have e1 : cfault m = 58 := by unfold cfault; rw [if_neg hg', if_neg h4, if_neg h5, if_neg (by rw [hany]; exact Bool.false_ne_true), if_pos h6]
              go_wp2
              go_ret
              exact ⟨by first | exact ret_eq e1 | rfl, HB.out⟩
            · have b6 : decide (csum m.2.1 m.2.2.1 0 > 65536) = false := decide_eq_false h6
              have e1 : cfault m = 0 := by unfold cfault; rw [if_neg hg', if_neg h4, if_neg h5, if_neg (by rw [hany]; exact Bool.false_ne_true), if_neg h6]
              go_wp2
              go_ret
              exact ⟨by first | exact ret_eq e1 | rfl, HB.out⟩
end Cr
end Go.Proofs.Ytjeeakhgjcbhaaa
set_option linter.unusedVariables false
set_option linter.unusedSimpArgs false
namespace Go.Proofs.Ytjeeakhgjcbhaaa
open Go.RowKit Go.Proofs.YtjeeakhgjcbhaaaW.PrintWords Go.Proofs.YtjeeakhgjcbhaaaW Go.Proofs.YtjeeakhgjcbhaaaW.PrintMore
namespace Cr
open Wd Vl Mt
/-- A place: the file, which of its pieces, its first byte, its length. -/
abbrev PlD := Int × Int × Int × Int
/-- How many pieces a file has. -/
def cN (len pl : Int) : Nat := ((len + pl - 1) / pl).toNat
theorem lt_cN {len pl : Int} (hp : 0 < pl) (j : Nat) : j < cN len pl ↔ (j : Int) * pl < len := by
  have h := Int.le_ediv_iff_mul_le (a := (j : Int) + 1) (b := len + pl - 1) hp
  rw [Int.add_mul, Int.one_mul] at h
  unfold cN
  omega
def mkP (i : Int) (n : Nat) (pl len : Int) : PlD := (i, n, n * pl, if len - n * pl > pl then pl else len - n * pl)
def fpl (i pl len : Int) : List PlD := (List.range (cN len pl)).map fun n => mkP i n pl len
def pls (pl : Int) : List FileD → Int → List PlD
  | [], _ => []
  | f :: l, i => fpl i pl f.2.1 ++ pls pl l (i + 1)
theorem fpl_len (i pl len : Int) : (fpl i pl len).length = cN len pl := by unfold fpl; rw [List.length_map, List.length_range]
theorem pls_take (pl : Int) : ∀ (l : List FileD) (i : Int) (k : Nat), k < l.length → pls pl (l.take (k + 1)) i = pls pl (l.take k) i ++ fpl (i + k) pl (l.getD k f0).2.1
  | [], _, _, h => by simp at h
  | f :: l, i, 0, h => by simp [pls]
  | f :: l, i, k + 1, h => by
    have := pls_take pl l (i + 1) k (by simpa using h)
    simp only [List.take_succ_cons, pls, List.getD_cons_succ]
    rw [this, List.append_assoc]
    congr 3
    omega
/-- Lengths that may be. -/
def LensOk (fs : List FileD) : Prop := ∀ f ∈ fs, 0 ≤ f.2.1 ∧ f.2.1 ≤ 1099511627776
theorem cP_cN {len pl : Int} (h0 : 0 ≤ len) (h1 : len ≤ 1099511627776) (hp : 64 ≤ pl) : cP len pl = cN len pl ∧ cN len pl ≤ 17179869184 := by
  have hd := Int.tdiv_eq_ediv_of_nonneg (b := pl) h0
  have hm := Int.tmod_eq_emod_of_nonneg (b := pl) h0
  have e := Int.mul_ediv_add_emod len pl
  have m0 := Int.emod_nonneg len (show pl ≠ 0 by omega)
  have m1 := Int.emod_lt_of_pos len (show 0 < pl by omega)
  have q0 : 0 ≤ len / pl := Int.ediv_nonneg h0 (by omega)
  have q1 : len / pl * 64 + len % pl ≤ len := by
    have : len / pl * 64 ≤ len / pl * pl := Int.mul_le_mul_of_nonneg_left hp q0
    have h3 : len / pl * pl = pl * (len / pl) := Int.mul_comm _ _
    omega
  have hc : (len + pl - 1) / pl = len / pl + (if len % pl = 0 then 0 else 1) := by
    have e2 : len + pl - 1 = (len % pl + pl - 1) + pl * (len / pl) := by omega
    rw [e2, Int.add_mul_ediv_left _ _ (show pl ≠ 0 by omega)]
    by_cases hz : len % pl = 0
    · rw [if_pos hz, hz, show (0 + pl - 1) / pl = 0 from Int.ediv_eq_zero_of_lt (by omega) (by omega)]; omega
    · rw [if_neg hz]
      have : (len % pl + pl - 1) / pl = 1 := by
        rw [show len % pl + pl - 1 = (len % pl - 1) + pl * 1 by omega, Int.add_mul_ediv_left _ _ (show pl ≠ 0 by omega), Int.ediv_eq_zero_of_lt (by omega) (by omega)]
        omega
      omega
  unfold cP cN mn
  rw [hd, hm, hc]
  generalize len / pl = q at *
  generalize len % pl = r at *
  by_cases hz : r = 0
  · subst hz
    rw [if_neg (by omega), if_pos rfl]
    unfold wrap64
    omega
  · rw [if_neg hz]
    by_cases h1r : 1 < r
    · rw [if_pos h1r]; unfold wrap64; omega
    · rw [if_neg h1r, show r = 1 by omega]; unfold wrap64; omega
theorem csum_pls {pl : Int} (hp : 64 ≤ pl) : ∀ (l : List FileD) (s : Nat) (i : Int), LensOk l → s + l.length * 17179869184 ≤ 9223372036854775807 → csum pl l s = ((s + (pls pl l i).length : Nat) : Int) ∧ (pls pl l i).length ≤ l.length * 17179869184
  | [], s, i, _, _ => by simp [csum, pls]
  | f :: l, s, i, hl, hs => by
    have hf := hl f List.mem_cons_self
    obtain ⟨h1, h2⟩ := cP_cN hf.1 hf.2 hp
    rw [List.length_cons, Nat.succ_mul] at hs
    have hw : wrap64 ((s : Int) + cP f.2.1 pl) = ((s + cN f.2.1 pl : Nat) : Int) := by rw [h1]; unfold wrap64; omega
    obtain ⟨h3, h4⟩ := csum_pls hp l (s + cN f.2.1 pl) (i + 1) (fun g hg => hl g (List.mem_cons_of_mem _ hg)) (by omega)
    simp only [csum, pls, List.length_append, fpl_len, List.length_cons, Nat.succ_mul]
    rw [hw, h3]
    exact ⟨by congr 1; omega, by omega⟩
theorem goodPL_ge {x : Int} (h : goodPL x = true) : 64 ≤ x ∧ x ≤ 16777216 := by
  obtain ⟨k, hk, rfl⟩ := (P2.powB_iff 6 19 x).1 h
  have h1 : 2 ^ 6 ≤ 2 ^ (6 + k) := Nat.pow_le_pow_right (by omega) (by omega)
  have h2 : 2 ^ (6 + k) ≤ 2 ^ 24 := Nat.pow_le_pow_right (by omega) (by omega)
  omega
/-- What a metainfo that can be mapped is. -/
theorem cfault_ok {m : MetaD} (h : cfault m = 0) : (64 ≤ m.2.1 ∧ m.2.1 ≤ 16777216) ∧ 0 < m.2.2.1.length ∧ m.2.2.1.length ≤ 4096 ∧ LensOk m.2.2.1 ∧ csum m.2.1 m.2.2.1 0 = ((pls m.2.1 m.2.2.1 0).length : Int) ∧ (pls m.2.1 m.2.2.1 0).length ≤ 65536 := by
  unfold cfault at h
  by_cases hg : goodPL m.2.1 = false
  · rw [if_pos hg] at h; omega
  · rw [if_neg hg] at h
    have hg' := goodPL_ge (by simpa using hg)
    by_cases h1 : m.2.2.1.length = 0
    · rw [if_pos h1] at h; omega
    · rw [if_neg h1] at h
      by_cases h2 : m.2.2.1.length > 4096
      · rw [if_pos h2] at h; omega
      · rw [if_neg h2] at h
        by_cases h3 : m.2.2.1.any badLen = true
        · rw [if_pos h3] at h; omega
        · rw [if_neg h3] at h
          by_cases h4 : csum m.2.1 m.2.2.1 0 > 65536
          · rw [if_pos h4] at h; omega
          · have hL : LensOk m.2.2.1 := fun f hf => by
              have h5 := List.any_eq_false.1 (by simpa using h3) f hf
              unfold badLen at h5
              simp at h5
              omega
            have h6 := csum_pls hg'.1 m.2.2.1 0 0 hL (by omega)
            rw [Nat.zero_add] at h6
            have h7 : csum m.2.1 m.2.2.1 0 = ((pls m.2.1 m.2.2.1 0).length : Int) := h6.1
            exact ⟨hg', by omega, by omega, hL, h7, by omega⟩
end Cr
end Go.Proofs.Ytjeeakhgjcbhaaa
set_option linter.unusedVariables false
set_option linter.unusedSimpArgs false
namespace Go.Proofs.Ytjeeakhgjcbhaaa
open Go.RowKit Go.Proofs.YtjeeakhgjcbhaaaW.PrintWords Go.Proofs.YtjeeakhgjcbhaaaW Go.Proofs.YtjeeakhgjcbhaaaW.PrintMore
namespace Cr
open Wd Vl Mt
def encPl (p : PlD) : List Value := [.int .i64 p.1, .int .i64 p.2.1, .int .i64 p.2.2.1, .int .i64 p.2.2.2]
theorem encPl_len (p : PlD) : (encPl p).length = 4 := rfl
theorem encPl_one (p : PlD) : ∀ u ∈ encPl p, u.oneCell' = true := by
  intro u hu
  simp [encPl] at hu
  rcases hu with rfl | rfl | rfl | rfl <;> rfl
/-- A place that is read or made. -/
def KPl : Kd PlD := Fl.flat encPl 4 encPl_len encPl_one
theorem infoPl : (Try.prog.info? 53).map (fun i => (i.zero, i.size, i.bytes)) = some (some (.agg ((encPl (0, 0, 0, 0)).toArray)), 4, 32) := by kernel_rfl
theorem pls_le (pl : Int) : ∀ (l : List FileD) (k : Nat) (i : Int), (pls pl (l.take k) i).length ≤ (pls pl l i).length
  | [], k, i => by simp
  | f :: l, 0, i => by simp [pls]
  | f :: l, k + 1, i => by
    have := pls_le pl l k (i + 1)
    simp only [List.take_succ_cons, pls, List.length_append]
    omega
set_option maxHeartbeats 4000000 in
set_option maxRecDepth 100000 in
theorem refPlaces_any (m : MetaD) (cs : List Value) (w : World) (hK : KMeta.K w m cs) (hG : GMeta m) (hf : cfault m = 0) :
    Calls Try.prog 57 #[.agg cs.toArray] w fun e w' => ∃ A c, e = .returned (.slice A (pls m.2.1 m.2.2.1 0).length c) ∧ KPl.C w' A (pls m.2.1 m.2.2.1 0).length (pls m.2.1 m.2.2.1 0) ∧ Below w.heap.size w w' := by
  obtain ⟨AF, cF, AL, cL, AI, cI, AT, cT, rfl, hF, _⟩ := meta_open hK
  have q1 : m.2.2.1.length * 88 ≤ 140737488351232 := hG.2.1.1
  obtain ⟨⟨p1, p2⟩, _, _, hL, _, hT⟩ := cfault_ok hf
  have HF := Aside0.mk hF
  have HLO := Lib.hid hL
  have HX0 : Aside0 ((w.alloc (.cells #[.string m.1, .int .i64 m.2.1, .slice AF m.2.2.1.length cF, .slice AL m.2.2.2.1.length cL, .slice AI m.2.2.2.2.1.length cI, .slice AT m.2.2.2.2.2.length cT] 46)).heap[w.heap.size]? = some (.cells #[.string m.1, .int .i64 m.2.1, .slice AF m.2.2.1.length cF, .slice AL m.2.2.2.1.length cL, .slice AI m.2.2.2.2.1.length cI, .slice AT m.2.2.2.2.2.length cT] 46)) := ⟨heap_alloc_new w _⟩
  have HB0 : Aside0 (Below w.heap.size w (w.alloc (.cells #[.string m.1, .int .i64 m.2.1, .slice AF m.2.2.1.length cF, .slice AL m.2.2.2.1.length cL, .slice AI m.2.2.2.2.1.length cI, .slice AT m.2.2.2.2.2.length cT] 46))) := ⟨below_alloc (Below.refl w.heap.size w) (.cells #[.string m.1, .int .i64 m.2.1, .slice AF m.2.2.1.length cF, .slice AL m.2.2.2.1.length cL, .slice AI m.2.2.2.2.1.length cI, .slice AT m.2.2.2.2.2.length cT] 46)⟩
  have HTO := Lib.hid hT
  clear hF hK hG hf hL hT
  go_enter Try.func57, Try.ntmps57
  go_wp2
  go_loopw [3, 4] (fun v i wz => ∃ k : Nat, k ≤ m.2.2.1.length ∧ i = .int .i64 k ∧ Aside0 (KPl.R 53 wz w.heap.size (fun _ => True) v (pls m.2.1 (m.2.2.1.take k) 0)) ∧ Aside0 (wz.heap[w.heap.size]? = some (.cells #[.string m.1, .int .i64 m.2.1, .slice AF m.2.2.1.length cF, .slice AL m.2.2.2.1.length cL, .slice AI m.2.2.2.2.1.length cI, .slice AT m.2.2.2.2.2.length cT] 46)) ∧ Aside0 (Below w.heap.size w wz)) (fun v i _ => m.2.2.1.length - (intOf i).toNat)
  case atStart => exact ⟨0, by omega, rfl, ⟨Kd.R_nil _ _ _ _ _⟩, HX0, HB0⟩
  case round =>
    clear HX0 HB0
    obtain ⟨k, hk, rfl, HO, HX, HB⟩ := hrel
    have hx2 : wr.cell? ⟨w.heap.size, 2, none⟩ = some (.slice AF m.2.2.1.length cF) := Go.Joins.cell_of_block HX.out 2
    by_cases hlt : k < m.2.2.1.length
    · have hmem : m.2.2.1.getD k f0 ∈ m.2.2.1 := nth_mem f0 m.2.2.1 k hlt
      have htk := pls_take m.2.1 m.2.2.1 0 k hlt
      have hle := Nat.le_trans (pls_le m.2.1 m.2.2.1 (k + 1) 0) HTO.out
      rw [htk, List.length_append, fpl_len] at hle
      rw [Int.zero_add] at htk
      obtain ⟨ad, cs, e0, hl35, hfk, hcs⟩ := at_file HF.out k hlt
      have E0 := Lib.hid e0
      change KFile.K w (m.2.2.1.getD k f0) cs at hfk
      have hlen := HLO.out _ hmem
      generalize m.2.2.1.getD k f0 = f at *
      have HY : Hid (∀ wz, Below w.heap.size w wz → wz.cell? ⟨(ad.add (k * 35)).block, (ad.add (k * 35)).off + 1, none⟩ = some (.int .i64 f.2.1)) := Lib.hid fun wz h => cell_stay h (Fl.fcell 1 (by omega) (hcs 1 _ (by obtain ⟨P, p, MM, q, rfl, _⟩ := file_open hfk; rfl)))
      have HTK := Lib.hid htk
      clear hmem htk e0 hl35 hfk hcs
      generalize f.2.1 = len at *
      obtain ⟨L, hL⟩ : ∃ L, L = pls m.2.1 (m.2.2.1.take k) 0 := ⟨_, rfl⟩
      rw [← hL] at HO HTK hle
      go_wp2
      go_loopw [3, 5, 6] (fun v n a wz => ∃ j : Nat, j ≤ cN len m.2.1 ∧ n = .int .i64 j ∧ a = .int .i64 (j * m.2.1) ∧ Aside0 (KPl.R 53 wz w.heap.size (fun _ => True) v (L ++ (List.range j).map fun q => mkP k q m.2.1 len)) ∧ Aside0 (wz.heap[w.heap.size]? = some (.cells #[.string m.1, .int .i64 m.2.1, .slice AF m.2.2.1.length cF, .slice AL m.2.2.2.1.length cL, .slice AI m.2.2.2.2.1.length cI, .slice AT m.2.2.2.2.2.length cT] 46)) ∧ Aside0 (Below w.heap.size w wz)) (fun v n a _ => cN len m.2.1 - (intOf n).toNat)
      case atStart => exact ⟨0, by omega, rfl, by simp, ⟨by simpa using HO.out⟩, HX, HB⟩
      case round =>
        clear HO HX HB hx2
        obtain ⟨j, hj, rfl, rfl, HO, HX, HB⟩ := hrel
        have hx1 : wr.cell? ⟨w.heap.size, 1, none⟩ = some (.int .i64 m.2.1) := Go.Joins.cell_of_block HX.out 1
        have hx2 : wr.cell? ⟨w.heap.size, 2, none⟩ = some (.slice AF m.2.2.1.length cF) := Go.Joins.cell_of_block HX.out 2
        rw [E0.out] at hx2
        have hy1 := HY.out wr HB.out
        have hlt2 := lt_cN (len := len) (show 0 < m.2.1 by omega) j
        have ha0 : 0 ≤ (j : Int) * m.2.1 := Int.mul_nonneg (by omega) (by omega)
        have HA : Hid ((j : Int) * m.2.1 < len → wrap64 ((j : Int) * m.2.1 + m.2.1) = ((j + 1 : Nat) : Int) * m.2.1) := Lib.hid fun h => by
          rw [Int.natCast_add, Int.add_mul]
          unfold wrap64
          omega
        by_cases hjc : j < cN len m.2.1
        · have hja := hlt2.1 hjc
          replace HA := Lib.hid (HA.out hja)
          obtain ⟨a, ha⟩ : ∃ a, a = (j : Int) * m.2.1 := ⟨_, rfl⟩
          rw [← ha] at hja ha0 HA ⊢
          have HAE := Lib.hid ha
          clear ha
          have b1 : decide (a < len) = true := decide_eq_true hja
          have hw : wrap64 (len - a) = len - a := by unfold wrap64; omega
          have HNE := Lib.hid (Kd.R_ne HO.out HX.out (by decide))
          have HLEN : Hid (((L ++ (List.range j).map fun q => mkP k q m.2.1 len).length + 1) * 32 ≤ 140737488351232) := Lib.hid (by rw [List.length_append, List.length_map, List.length_range]; omega)
          clear hlt2
          by_cases hbig : len - a > m.2.1
          · have b2 : decide (len - a > m.2.1) = true := decide_eq_true hbig
            have HT : Hid (L ++ (List.range (j + 1)).map (fun q => mkP k q m.2.1 len) = (L ++ (List.range j).map fun q => mkP k q m.2.1 len) ++ [((k : Int), (j : Int), a, m.2.1)]) := Lib.hid (by rw [List.range_succ, List.map_append, ← List.append_assoc]; congr 1; show [mkP k j m.2.1 len] = _; unfold mkP; rw [← HAE.out, if_pos hbig])
            have HA2 : Hid (a + m.2.1 = ((j + 1 : Nat) : Int) * m.2.1) := Lib.hid (by rw [HAE.out, Int.natCast_add, Int.add_mul]; first | omega | simp)
            go_wp2_with (first | ((with_reducible refine Fl.wpList_build_to rfl 53 _ rfl (#[.int .i64 (k : Int), .int .i64 (j : Int), .int .i64 a, .int .i64 (m.2.1)]) ?bf ?_); (case bf => kernel_rfl)) | ((with_reducible refine Fl.wpList_lit_one rfl 101 53 (.tmp 46) rfl (encPl ((k : Int), (j : Int), a, m.2.1)).toArray ?tx Try.underlying101 (.agg (encPl (0, 0, 0, 0)).toArray) ?ti ?tp ?ts ?_); (case tx => rfl); (case ti => exact (by kernel_rfl)); (case tp => rfl); (case ts => rfl)) | (at_builtin; go_loud (refine Kd.R_append KPl (w0 := w) w.heap.size rfl (.tmp 41) (.tmp 47) 101 53 (.agg (encPl (0, 0, 0, 0)).toArray) 32 rfl Try.underlying101 infoPl rfl (by decide) (by omega) u3 ((L ++ (List.range j).map fun q => mkP k q m.2.1 len)) (((k : Int), (j : Int), a, m.2.1)) (encPl ((k : Int), (j : Int), a, m.2.1)) (fun _ => True) (fun _ => False) rfl rfl ?aP (fun _ h => h.elim) ?aF ?aO ?aB ?aS ?aL ?_); (case aP => exact rfl); (case aB => exact HB.out); (case aF => exact (fun _ _ => trivial)); (case aO => exact HO.out); (case aS => exact below_size HB.out); (case aL => have := HLEN.out; omega); intro v1 wq ho hb hg hat; rw [← HT.out] at ho; have HO1 := Aside0.mk ho; have HB1 := Aside0.mk hb; have HX1 := Aside0.mk (blk_grown HX.out hg HNE.out); have hx1q : wq.cell? ⟨w.heap.size, 1, none⟩ = some (.int .i64 m.2.1) := Go.Joins.cell_of_block HX1.out 1; clear ho hb hg hat HB HO))
            go_roundw
            case rel => exact ⟨j + 1, by omega, by go_num, by first | exact congrArg (Value.int .i64) HA2.out | exact congrArg (Value.int .i64) HA.out, HO1, HX1, HB1⟩
            case measure => simp [intOf]; omega
          · have b2 : decide (len - a > m.2.1) = false := decide_eq_false hbig
            have HT : Hid (L ++ (List.range (j + 1)).map (fun q => mkP k q m.2.1 len) = (L ++ (List.range j).map fun q => mkP k q m.2.1 len) ++ [((k : Int), (j : Int), a, (len - a))]) := Lib.hid (by rw [List.range_succ, List.map_append, ← List.append_assoc]; congr 1; show [mkP k j m.2.1 len] = _; unfold mkP; rw [← HAE.out, if_neg hbig])
            have HA2 : Hid (a + m.2.1 = ((j + 1 : Nat) : Int) * m.2.1) := Lib.hid (by rw [HAE.out, Int.natCast_add, Int.add_mul]; first | omega | simp)
            go_wp2_with (first | ((with_reducible refine Fl.wpList_build_to rfl 53 _ rfl (#[.int .i64 (k : Int), .int .i64 (j : Int), .int .i64 a, .int .i64 ((len - a))]) ?bf ?_); (case bf => kernel_rfl)) | ((with_reducible refine Fl.wpList_lit_one rfl 101 53 (.tmp 46) rfl (encPl ((k : Int), (j : Int), a, (len - a))).toArray ?tx Try.underlying101 (.agg (encPl (0, 0, 0, 0)).toArray) ?ti ?tp ?ts ?_); (case tx => rfl); (case ti => exact (by kernel_rfl)); (case tp => rfl); (case ts => rfl)) | (at_builtin; go_loud (refine Kd.R_append KPl (w0 := w) w.heap.size rfl (.tmp 41) (.tmp 47) 101 53 (.agg (encPl (0, 0, 0, 0)).toArray) 32 rfl Try.underlying101 infoPl rfl (by decide) (by omega) u3 ((L ++ (List.range j).map fun q => mkP k q m.2.1 len)) (((k : Int), (j : Int), a, (len - a))) (encPl ((k : Int), (j : Int), a, (len - a))) (fun _ => True) (fun _ => False) rfl rfl ?aP (fun _ h => h.elim) ?aF ?aO ?aB ?aS ?aL ?_); (case aP => exact rfl); (case aB => exact HB.out); (case aF => exact (fun _ _ => trivial)); (case aO => exact HO.out); (case aS => exact below_size HB.out); (case aL => have := HLEN.out; omega); intro v1 wq ho hb hg hat; rw [← HT.out] at ho; have HO1 := Aside0.mk ho; have HB1 := Aside0.mk hb; have HX1 := Aside0.mk (blk_grown HX.out hg HNE.out); have hx1q : wq.cell? ⟨w.heap.size, 1, none⟩ = some (.int .i64 m.2.1) := Go.Joins.cell_of_block HX1.out 1; clear ho hb hg hat HB HO))
            go_roundw
            case rel => exact ⟨j + 1, by omega, by go_num, by first | exact congrArg (Value.int .i64) HA2.out | exact congrArg (Value.int .i64) HA.out, HO1, HX1, HB1⟩
            case measure => simp [intOf]; omega
        · have ej : j = cN len m.2.1 := by omega
          clear hj
          have b1 : decide ((j : Int) * m.2.1 < len) = false := decide_eq_false (fun h => hjc (hlt2.2 h))
          have HO2 : Aside0 (KPl.R 53 wr w.heap.size (fun _ => True) u3 (pls m.2.1 (m.2.2.1.take (k + 1)) 0)) := ⟨by rw [HTK.out]; unfold fpl; rw [← ej]; exact HO.out⟩
          clear HA hlt2 ej hjc
          go_wp2
          go_roundw
          case rel => exact ⟨k + 1, by omega, by go_num, HO2, HX, HB⟩
          case measure => simp [intOf]; omega
    · have ek : k = m.2.2.1.length := by omega
      subst ek
      have ho := HO.out
      rw [List.take_length] at ho
      obtain ⟨A, c, e, hc, hC⟩ := Kd.R_reads ho
      subst e
      go_wp2
      go_ret
      exact ⟨A, c, rfl, hC, HB.out⟩
end Cr
end Go.Proofs.Ytjeeakhgjcbhaaa
set_option linter.unusedVariables false
set_option linter.unusedSimpArgs false
namespace Go.Proofs.Ytjeeakhgjcbhaaa
open Go.RowKit Go.Proofs.YtjeeakhgjcbhaaaW.PrintWords Go.Proofs.YtjeeakhgjcbhaaaW Go.Proofs.YtjeeakhgjcbhaaaW.PrintMore
namespace Cr
open Wd Vl Mt PCreateBlocks
theorem cfault_pl {m : MetaD} (h : cfault m = 0) : m.2.1 ≠ 0 := by
  unfold cfault at h
  by_cases hg : goodPL m.2.1 = false
  · rw [if_pos hg] at h; omega
  · exact goodPL_ne (by simpa using hg)
theorem C_take {α : Type} {d : Kd α} {w : World} {A : Option Addr} {n k : Nat} {xs : List α} (h : d.C w A n xs) (hk : k ≤ n) : d.C w A k (xs.take k) := by
  obtain ⟨h1, h2, h3⟩ := h
  refine ⟨by rw [List.length_take]; omega, by omega, fun hn => ?_⟩
  obtain ⟨ad, e, hc⟩ := h3 (by omega)
  refine ⟨ad, e, fun j p hj => hc j p ?_⟩
  rw [List.getElem?_take] at hj
  split at hj
  · exact hj
  · cases hj
theorem meta_cap {w : World} {m : MetaD} {s : ByteArray} {n : Int} {A : Option Addr} {k c : Nat} {r : List Value} (h : KMeta.K w m (.string s :: .int .i64 n :: .slice A k c :: r)) : k ≤ c := by
  obtain ⟨AF, cF, AL, cL, AI, cI, AT, cT, e, _, _, _, _, l1, _⟩ := meta_open' h
  injection e with _ e
  injection e with _ e
  injection e with e _
  injection e with _ e1 e2
  omega
/-- Pieces, as create tells it. -/
def cPieces (m : MetaD) : Int := if cfault m = 0 then csum m.2.1 m.2.2.1 0 else 0
set_option maxHeartbeats 4000000 in
set_option maxRecDepth 100000 in
theorem Pieces_any (m : MetaD) (cs : List Value) (w : World) (hK : KMeta.K w m cs) (hG : GMeta m) :
    Calls Try.prog 19 #[.agg cs.toArray] w fun e w' => e = .returned (.tuple #[.int .i64 (cPieces m), .int .i64 (cfault m)]) ∧ Below w.heap.size w w' := by
  obtain ⟨AF, cF, AL, cL, AI, cI, AT, cT, rfl, hF, _⟩ := meta_open hK
  have q1 : m.2.2.1.length * 88 ≤ 140737488351232 := hG.2.1.1
  have HF := Aside0.mk hF
  have HK := Aside0.mk hK
  have HB0 : Aside0 (Below w.heap.size w (w.alloc (.cells #[.string m.1, .int .i64 m.2.1, .slice AF m.2.2.1.length cF, .slice AL m.2.2.2.1.length cL, .slice AI m.2.2.2.2.1.length cI, .slice AT m.2.2.2.2.2.length cT] 46))) := ⟨below_alloc (Below.refl w.heap.size w) (.cells #[.string m.1, .int .i64 m.2.1, .slice AF m.2.2.1.length cF, .slice AL m.2.2.2.1.length cL, .slice AI m.2.2.2.2.1.length cI, .slice AT m.2.2.2.2.2.length cT] 46)⟩
  have HX0 : Aside0 ((w.alloc (.cells #[.string m.1, .int .i64 m.2.1, .slice AF m.2.2.1.length cF, .slice AL m.2.2.2.1.length cL, .slice AI m.2.2.2.2.1.length cI, .slice AT m.2.2.2.2.2.length cT] 46)).heap[w.heap.size]? = some (.cells #[.string m.1, .int .i64 m.2.1, .slice AF m.2.2.1.length cF, .slice AL m.2.2.2.1.length cL, .slice AI m.2.2.2.2.1.length cI, .slice AT m.2.2.2.2.2.length cT] 46)) := ⟨heap_alloc_new w _⟩
  have HZ : Hid (∀ j u, ([.string m.1, .int .i64 m.2.1, .slice AF m.2.2.1.length cF, .slice AL m.2.2.2.1.length cL, .slice AI m.2.2.2.2.1.length cI, .slice AT m.2.2.2.2.2.length cT] : List Value)[j]? = some u → (w.alloc (.cells #[.string m.1, .int .i64 m.2.1, .slice AF m.2.2.1.length cF, .slice AL m.2.2.2.1.length cL, .slice AI m.2.2.2.2.1.length cI, .slice AT m.2.2.2.2.2.length cT] 46)).cell? ((⟨w.heap.size, 0, none⟩ : Addr).add j) = some u) := Lib.hid fun j u hj => by rw [Go.WideShapes.add_plain, Go.Joins.cell_of_block HX0.out, List.getElem?_toArray, Nat.zero_add]; exact hj
  have HFA := Lib.hid (fault_any m _ _ (KMeta.K_below HB0.out hK) hG)
  clear hF hK hG
  go_enter Try.func19, Try.ntmps19
  go_wp2_with ((with_reducible refine Fl.wpList_load rfl 46 (.tmp 1) rfl (⟨w.heap.size, 0, none⟩) ?lx ([.string m.1, .int .i64 m.2.1, .slice AF m.2.2.1.length cF, .slice AL m.2.2.2.1.length cL, .slice AI m.2.2.2.2.1.length cI, .slice AT m.2.2.2.2.2.length cT]) _ ?lc Try.underlying46 rfl ?li ?_); (case lx => rfl); (case lc => exact HZ.out); (case li => exact (by kernel_rfl)))
  go_at_call 53
  refine HFA.out.mono ?_
  rintro e wr ⟨rfl, hb1⟩
  have HX := Aside0.mk (blk_below HX0.out hb1)
  have HB := Aside0.mk (below_step HB0.out hb1)
  clear hb1 HX0 HB0 HZ HFA
  have hx2 : wr.cell? ⟨w.heap.size, 2, none⟩ = some (.slice AF m.2.2.1.length cF) := Go.Joins.cell_of_block HX.out 2
  by_cases hf : cfault m = 0
  · have e1 : cPieces m = csum m.2.1 m.2.2.1 0 := by unfold cPieces; rw [if_pos hf]
    have E1 := Lib.hid e1
    have hpl : m.2.1 ≠ 0 := cfault_pl hf
    clear e1
    rw [hf]
    go_upto_region 4 with fail
    refine PrintLast.start_ (n := 7) (S := fun w' => Below wr.heap.size wr w') (ds := []) #[false, false, false, false, false, false, false] (by kernel_rfl) rfl rfl (below_drew1 (Below.refl _ _)) (fun hHeld => ?_)
    generalize wr.drew = W0 at *
    refine PrintLast.pure_ (i := 0) (N := some 10) (v := ?_) (a' := ?_) #[true, false, false, false, false, false, false] rfl rfl (by kernel_rfl) (fun _ _ _ h => h) (Or.inl ⟨by rfl, ?_⟩) ?_ ?_
    rotate_left
    · intro w'
      go_simp
      with_reducible rfl
    rotate_left
    · simp only [Act.put, List.setIfInBounds_toArray, List.set_cons_zero, List.set_cons_succ]
      rfl
    refine PrintLast.take_ (i := 1) (N := some 11) (v := ?_) (a' := ?_) #[true, true, false, false, false, false, false] rfl rfl (by kernel_rfl) (fun _ _ _ h => h) (Or.inl ⟨by rfl, ?_⟩) hHeld ?_ ?_
    rotate_left
    · intro w' s0
      (have g1 := cell_stay s0 hx2; go_simp; with_reducible rfl)
    rotate_left
    · simp only [Act.put, List.setIfInBounds_toArray, List.set_cons_zero, List.set_cons_succ]
      rfl
    refine PrintLast.take_ (i := 2) (N := some 12) (v := .agg (#[.string m.1, .int .i64 m.2.1, .slice AF m.2.2.1.length cF, .slice AL m.2.2.2.1.length cL, .slice AI m.2.2.2.2.1.length cI, .slice AT m.2.2.2.2.2.length cT] : Array Value)) (a' := ?_) #[true, true, true, false, false, false, false] rfl rfl (by kernel_rfl) (fun _ _ _ h => h) (Or.inl ⟨by rfl, ?_⟩) hHeld ?_ ?_
    skip
    · intro w' s0
      exact Fl.exec_load (ty := 46) (x := .tmp 1) (ad := ⟨w.heap.size, 0, none⟩) (cs := (#[.string m.1, .int .i64 m.2.1, .slice AF m.2.2.1.length cF, .slice AL m.2.2.2.1.length cL, .slice AI m.2.2.2.2.1.length cI, .slice AT m.2.2.2.2.2.length cT] : Array Value)) (by rfl) (by rfl) (Fl.run_load (cs := [.string m.1, .int .i64 m.2.1, .slice AF m.2.2.1.length cF, .slice AL m.2.2.2.1.length cL, .slice AI m.2.2.2.2.1.length cI, .slice AT m.2.2.2.2.2.length cT]) (fun j u hj => cell_stay s0 (by rw [Go.WideShapes.add_plain, Go.Joins.cell_of_block HX.out, List.getElem?_toArray, Nat.zero_add]; exact hj)) Try.underlying46 rfl (by kernel_rfl))
    rotate_left
    · simp only [Act.put, List.setIfInBounds_toArray, List.set_cons_zero, List.set_cons_succ]
      rfl
    refine PrintLast.one_ (i := 3) (N := some 13) #[true, true, true, true, false, false, false] rfl rfl (by kernel_rfl) (by decide) (fun K hK => ?_)
    refine PrintLast.goes_ Try.func55 (by kernel_rfl) rfl #[.agg (#[.string m.1, .int .i64 m.2.1, .slice AF m.2.2.1.length cF, .slice AL m.2.2.2.1.length cL, .slice AI m.2.2.2.2.1.length cI, .slice AT m.2.2.2.2.2.length cT] : Array Value)] (by rfl) rfl rfl (by simp only [List.map_toArray, List.map_cons, List.map_nil]; rfl) ?_
    refine (pieces_any m _ _ (KMeta.K_below (below_step HB.out hHeld) HK.out)).mono ?_
    rintro e W1 ⟨rfl, hpc_gp, hst⟩
    have hst1 := below_step hHeld hst
    refine ⟨_, rfl, ?_⟩
    refine hK.out _ _ hst1 (fun hHeld => ?_)
    clear hK K
    refine PrintLast.norm_ (a' := ?_) ?_ ?_
    rotate_left
    · show Act.put _ (some 13) _ = _
      simp only [Act.put, List.setIfInBounds_toArray, List.set_cons_zero, List.set_cons_succ]
      rfl
    clear hst
    obtain ⟨gp, hgp⟩ : ∃ gp, gp = W0.heap.size := ⟨_, rfl⟩
    rw [← hgp] at hpc_gp ⊢
    clear hgp
    refine PrintLast.one_ (i := 4) (N := some 14) #[true, true, true, true, true, false, false] rfl rfl (by kernel_rfl) (by decide) (fun K hK => ?_)
    refine PrintLast.goes_ Try.func54 (by kernel_rfl) rfl #[.slice AF m.2.2.1.length cF, .func (.func 83) #[] #[.pointer (some ⟨gp, 0, none⟩)]] (by rfl) rfl rfl (by simp only [List.map_toArray, List.map_cons, List.map_nil]; rfl) ?_
    refine (sum_any AF (cF) m.2.2.1 gp m.2.1 _ (Kd.C_below HF.out (below_step HB.out hHeld)) q1 hpc_gp hpl).mono ?_
    rintro e W2 ⟨rfl, hst⟩
    have hst2 := below_step hHeld hst
    refine ⟨_, rfl, ?_⟩
    refine hK.out _ _ hst2 (fun hHeld => ?_)
    clear hK K
    refine PrintLast.norm_ (a' := ?_) ?_ ?_
    rotate_left
    · show Act.put _ (some 14) _ = _
      simp only [Act.put, List.setIfInBounds_toArray, List.set_cons_zero, List.set_cons_succ]
      rfl
    clear hst
    refine PrintLast.pure_ (i := 5) (N := some 2) (v := ?_) (a' := ?_) #[true, true, true, true, true, true, false] rfl rfl (by kernel_rfl) (fun _ _ _ h => h) (Or.inl ⟨by rfl, ?_⟩) ?_ ?_
    rotate_left
    · intro w'
      go_simp
      with_reducible rfl
    rotate_left
    · simp only [Act.put, List.setIfInBounds_toArray, List.set_cons_zero, List.set_cons_succ]
      rfl
    refine PrintLast.pure_ (i := 6) (N := some 3) (v := ?_) (a' := ?_) #[true, true, true, true, true, true, true] rfl rfl (by kernel_rfl) (fun _ _ _ h => h) (Or.inl ⟨by rfl, ?_⟩) ?_ ?_
    rotate_left
    · intro w'
      go_simp
      with_reducible rfl
    rotate_left
    · simp only [Act.put, List.setIfInBounds_toArray, List.set_cons_zero, List.set_cons_succ]
      rfl
    refine PrintLast.done_ (by kernel_rfl) ?_
    go_wp2
    go_ret2
    exact ⟨by rw [E1.out, hf]; rfl, below_step HB.out hHeld⟩
  · have e1 : cPieces m = 0 := by unfold cPieces; rw [if_neg hf]
    have b1 : (cfault m == 0) = false := by simp [hf]
    have b2 : (cfault m != 0) = true := by simp [hf]
    go_wp2
    go_ret2
    exact ⟨by rw [e1]; rfl, HB.out⟩
/-- Row, as create tells it: the first, how many, the fault. -/
def cRow (m : MetaD) (file : Int) : Int × Int × Int := if cfault m = 0 then (if 0 ≤ file ∧ file < m.2.2.1.length then (csum m.2.1 (m.2.2.1.take file.toNat) 0, cP (m.2.2.1.getD file.toNat f0).2.1 m.2.1, 0) else (0, 0, 90)) else (0, 0, cfault m)
set_option maxHeartbeats 4000000 in
set_option maxRecDepth 100000 in
theorem Row_any (m : MetaD) (cs : List Value) (file : Int) (w : World) (hK : KMeta.K w m cs) (hG : GMeta m) :
    Calls Try.prog 21 #[.agg cs.toArray, .int .i64 file] w fun e w' => e = .returned (.tuple #[.int .i64 (cRow m file).1, .int .i64 (cRow m file).2.1, .int .i64 (cRow m file).2.2]) ∧ Below w.heap.size w w' := by
  obtain ⟨AF, cF, AL, cL, AI, cI, AT, cT, rfl, hF, _⟩ := meta_open hK
  have hcap := meta_cap hK
  have q1 : m.2.2.1.length * 88 ≤ 140737488351232 := hG.2.1.1
  have HF := Aside0.mk hF
  have HK := Aside0.mk hK
  have HB0 : Aside0 (Below w.heap.size w (w.alloc (.cells #[.string m.1, .int .i64 m.2.1, .slice AF m.2.2.1.length cF, .slice AL m.2.2.2.1.length cL, .slice AI m.2.2.2.2.1.length cI, .slice AT m.2.2.2.2.2.length cT] 46))) := ⟨below_alloc (Below.refl w.heap.size w) (.cells #[.string m.1, .int .i64 m.2.1, .slice AF m.2.2.1.length cF, .slice AL m.2.2.2.1.length cL, .slice AI m.2.2.2.2.1.length cI, .slice AT m.2.2.2.2.2.length cT] 46)⟩
  have HX0 : Aside0 ((w.alloc (.cells #[.string m.1, .int .i64 m.2.1, .slice AF m.2.2.1.length cF, .slice AL m.2.2.2.1.length cL, .slice AI m.2.2.2.2.1.length cI, .slice AT m.2.2.2.2.2.length cT] 46)).heap[w.heap.size]? = some (.cells #[.string m.1, .int .i64 m.2.1, .slice AF m.2.2.1.length cF, .slice AL m.2.2.2.1.length cL, .slice AI m.2.2.2.2.1.length cI, .slice AT m.2.2.2.2.2.length cT] 46)) := ⟨heap_alloc_new w _⟩
  have HZ : Hid (∀ j u, ([.string m.1, .int .i64 m.2.1, .slice AF m.2.2.1.length cF, .slice AL m.2.2.2.1.length cL, .slice AI m.2.2.2.2.1.length cI, .slice AT m.2.2.2.2.2.length cT] : List Value)[j]? = some u → (w.alloc (.cells #[.string m.1, .int .i64 m.2.1, .slice AF m.2.2.1.length cF, .slice AL m.2.2.2.1.length cL, .slice AI m.2.2.2.2.1.length cI, .slice AT m.2.2.2.2.2.length cT] 46)).cell? ((⟨w.heap.size, 0, none⟩ : Addr).add j) = some u) := Lib.hid fun j u hj => by rw [Go.WideShapes.add_plain, Go.Joins.cell_of_block HX0.out, List.getElem?_toArray, Nat.zero_add]; exact hj
  have HFA := Lib.hid (fault_any m _ _ (KMeta.K_below HB0.out hK) hG)
  clear hF hK hG
  go_enter Try.func21, Try.ntmps21
  go_wp2_with ((with_reducible refine Fl.wpList_load rfl 46 (.tmp 2) rfl (⟨w.heap.size, 0, none⟩) ?lx ([.string m.1, .int .i64 m.2.1, .slice AF m.2.2.1.length cF, .slice AL m.2.2.2.1.length cL, .slice AI m.2.2.2.2.1.length cI, .slice AT m.2.2.2.2.2.length cT]) _ ?lc Try.underlying46 rfl ?li ?_); (case lx => rfl); (case lc => exact HZ.out); (case li => exact (by kernel_rfl)))
  go_at_call 53
  refine HFA.out.mono ?_
  rintro e wr ⟨rfl, hb1⟩
  have HX := Aside0.mk (blk_below HX0.out hb1)
  have HB := Aside0.mk (below_step HB0.out hb1)
  clear hb1 HX0 HB0 HZ HFA
  have hx2 : wr.cell? ⟨w.heap.size, 2, none⟩ = some (.slice AF m.2.2.1.length cF) := Go.Joins.cell_of_block HX.out 2
  by_cases hf : cfault m = 0
  · have hpl : m.2.1 ≠ 0 := cfault_pl hf
    rw [hf]
    by_cases h0 : file < 0
    · have b0 : decide (file < 0) = true := decide_eq_true h0
      have e1 : cRow m file = (0, 0, 90) := by unfold cRow; rw [if_pos hf, if_neg (by omega)]
      have E1 := Lib.hid e1
      clear e1
      go_wp2
      go_ret3
      exact ⟨by rw [E1.out]; rfl, HB.out⟩
    · have b0 : decide (file < 0) = false := decide_eq_false h0
      by_cases h1 : file ≥ m.2.2.1.length
      · have b1 : decide (file ≥ (m.2.2.1.length : Int)) = true := decide_eq_true h1
        have e1 : cRow m file = (0, 0, 90) := by unfold cRow; rw [if_pos hf, if_neg (by omega)]
        have E1 := Lib.hid e1
        clear e1
        go_wp2
        go_ret3
        exact ⟨by rw [E1.out]; rfl, HB.out⟩
      · have b1 : decide (file ≥ (m.2.2.1.length : Int)) = false := decide_eq_false h1
        have e1 : cRow m file = (csum m.2.1 (m.2.2.1.take file.toNat) 0, cP (m.2.2.1.getD file.toNat f0).2.1 m.2.1, 0) := by unfold cRow; rw [if_pos hf, if_pos (by omega)]
        have E1 := Lib.hid e1
        clear e1
        obtain ⟨k, rfl⟩ : ∃ k : Nat, file = k := ⟨file.toNat, by omega⟩
        rw [Int.toNat_natCast] at E1
        have hlt : k < m.2.2.1.length := by omega
        have hlt' : (k : Int) < m.2.2.1.length := by omega
        have hlc : k ≤ cF := by omega
        obtain ⟨ad, cs, e0, hl35, hfk, hcs⟩ := at_file HF.out k hlt
        subst e0
        have HSU : Hid (∀ W : World, Below w.heap.size w W → ∀ {g : Nat}, W.cell? ⟨g, 1, none⟩ = some (.int .i64 m.2.1) → Calls Try.prog 54 #[.slice (some ad) k cF, .func (.func 83) #[] #[.pointer (some ⟨g, 0, none⟩)]] W fun e w' => e = .returned (.int .i64 (csum m.2.1 (m.2.2.1.take k) 0)) ∧ Below W.heap.size W w') := Lib.hid fun W hW g hg => by
          have hl : (m.2.2.1.take k).length = k := by rw [List.length_take]; omega
          have := sum_any (some ad) cF (m.2.2.1.take k) g m.2.1 W (by rw [hl]; exact C_take (Kd.C_below HF.out hW) (by omega)) (by rw [hl]; omega) hg hpl
          rwa [hl] at this
        change KFile.K w (fx m.2.2.1 k) cs at hfk
        have hfs : m.2.2.1.getD k f0 = fx m.2.2.1 k := rfl
        rw [hfs] at E1
        clear hfs
        generalize fx m.2.2.1 k = f at *
        have hf' := hfk
        obtain ⟨P, p, MM, q, rfl, _⟩ := file_open hfk
        have HY : Hid (∀ j u, (encF (.slice P f.1.length p) f.2.1 f.2.2.1 (.slice MM f.2.2.2.length q))[j]? = some u → wr.cell? ((ad.add (k * 35)).add j) = some u) := Lib.hid fun j u hj => by
          rw [Go.Deep.add_add]
          exact cell_stay HB.out (hcs j u hj)
        have HKF := Aside0.mk hf'
        clear hfk hf' hcs hl35
        go_upto_region 6 with fail
        refine PrintLast.start_ (n := 18) (S := fun w' => Below wr.heap.size wr w') (ds := []) #[false, false, false, false, false, false, false, false, false, false, false, false, false, false, false, false, false, false] (by kernel_rfl) rfl rfl (below_drew1 (Below.refl _ _)) (fun hHeld => ?_)
        generalize wr.drew = W0 at *
        refine PrintLast.pure_ (i := 0) (N := some 22) (v := ?_) (a' := ?_) #[true, false, false, false, false, false, false, false, false, false, false, false, false, false, false, false, false, false] rfl rfl (by kernel_rfl) (fun _ _ _ h => h) (Or.inl ⟨by rfl, ?_⟩) ?_ ?_
        rotate_left
        · intro w'
          go_simp
          with_reducible rfl
        rotate_left
        · simp only [Act.put, List.setIfInBounds_toArray, List.set_cons_zero, List.set_cons_succ]
          rfl
        refine PrintLast.take_ (i := 1) (N := some 23) (v := ?_) (a' := ?_) #[true, true, false, false, false, false, false, false, false, false, false, false, false, false, false, false, false, false] rfl rfl (by kernel_rfl) (fun _ _ _ h => h) (Or.inl ⟨by rfl, ?_⟩) hHeld ?_ ?_
        rotate_left
        · intro w' s0
          (have g1 := cell_stay s0 hx2; go_simp; with_reducible rfl)
        rotate_left
        · simp only [Act.put, List.setIfInBounds_toArray, List.set_cons_zero, List.set_cons_succ]
          rfl
        refine PrintLast.pure_ (i := 2) (N := some 24) (v := ?_) (a' := ?_) #[true, true, true, false, false, false, false, false, false, false, false, false, false, false, false, false, false, false] rfl rfl (by kernel_rfl) (fun _ _ _ h => h) (Or.inl ⟨by rfl, ?_⟩) ?_ ?_
        rotate_left
        · intro w'
          go_simp
          with_reducible rfl
        rotate_left
        · simp only [Act.put, List.setIfInBounds_toArray, List.set_cons_zero, List.set_cons_succ]
          rfl
        refine PrintLast.pure_ (i := 3) (N := some 25) (v := .slice (some ad) k cF) (a' := ?_) #[true, true, true, true, false, false, false, false, false, false, false, false, false, false, false, false, false, false] rfl rfl (by kernel_rfl) (fun _ _ _ h => h) (Or.inl ⟨by rfl, ?_⟩) ?_ ?_
        skip
        · intro w'
          go_simp
        rotate_left
        · simp only [Act.put, List.setIfInBounds_toArray, List.set_cons_zero, List.set_cons_succ]
          rfl
        refine PrintLast.take_ (i := 4) (N := some 26) (v := .agg (#[.string m.1, .int .i64 m.2.1, .slice (some ad) m.2.2.1.length cF, .slice AL m.2.2.2.1.length cL, .slice AI m.2.2.2.2.1.length cI, .slice AT m.2.2.2.2.2.length cT] : Array Value)) (a' := ?_) #[true, true, true, true, true, false, false, false, false, false, false, false, false, false, false, false, false, false] rfl rfl (by kernel_rfl) (fun _ _ _ h => h) (Or.inl ⟨by rfl, ?_⟩) hHeld ?_ ?_
        skip
        · intro w' s0
          exact Fl.exec_load (ty := 46) (x := .tmp 2) (ad := ⟨w.heap.size, 0, none⟩) (cs := (#[.string m.1, .int .i64 m.2.1, .slice (some ad) m.2.2.1.length cF, .slice AL m.2.2.2.1.length cL, .slice AI m.2.2.2.2.1.length cI, .slice AT m.2.2.2.2.2.length cT] : Array Value)) (by rfl) (by rfl) (Fl.run_load (cs := [.string m.1, .int .i64 m.2.1, .slice (some ad) m.2.2.1.length cF, .slice AL m.2.2.2.1.length cL, .slice AI m.2.2.2.2.1.length cI, .slice AT m.2.2.2.2.2.length cT]) (fun j u hj => cell_stay s0 (by rw [Go.WideShapes.add_plain, Go.Joins.cell_of_block HX.out, List.getElem?_toArray, Nat.zero_add]; exact hj)) Try.underlying46 rfl (by kernel_rfl))
        rotate_left
        · simp only [Act.put, List.setIfInBounds_toArray, List.set_cons_zero, List.set_cons_succ]
          rfl
        refine PrintLast.take_ (i := 7) (N := some 29) (v := .agg (#[.string m.1, .int .i64 m.2.1, .slice (some ad) m.2.2.1.length cF, .slice AL m.2.2.2.1.length cL, .slice AI m.2.2.2.2.1.length cI, .slice AT m.2.2.2.2.2.length cT] : Array Value)) (a' := ?_) #[true, true, true, true, true, false, false, true, false, false, false, false, false, false, false, false, false, false] rfl rfl (by kernel_rfl) (fun _ _ _ h => h) (Or.inl ⟨by rfl, ?_⟩) hHeld ?_ ?_
        skip
        · intro w' s0
          exact Fl.exec_load (ty := 46) (x := .tmp 2) (ad := ⟨w.heap.size, 0, none⟩) (cs := (#[.string m.1, .int .i64 m.2.1, .slice (some ad) m.2.2.1.length cF, .slice AL m.2.2.2.1.length cL, .slice AI m.2.2.2.2.1.length cI, .slice AT m.2.2.2.2.2.length cT] : Array Value)) (by rfl) (by rfl) (Fl.run_load (cs := [.string m.1, .int .i64 m.2.1, .slice (some ad) m.2.2.1.length cF, .slice AL m.2.2.2.1.length cL, .slice AI m.2.2.2.2.1.length cI, .slice AT m.2.2.2.2.2.length cT]) (fun j u hj => cell_stay s0 (by rw [Go.WideShapes.add_plain, Go.Joins.cell_of_block HX.out, List.getElem?_toArray, Nat.zero_add]; exact hj)) Try.underlying46 rfl (by kernel_rfl))
        rotate_left
        · simp only [Act.put, List.setIfInBounds_toArray, List.set_cons_zero, List.set_cons_succ]
          rfl
        refine PrintLast.pure_ (i := 9) (N := some 31) (v := ?_) (a' := ?_) #[true, true, true, true, true, false, false, true, false, true, false, false, false, false, false, false, false, false] rfl rfl (by kernel_rfl) (fun _ _ _ h => h) (Or.inl ⟨by rfl, ?_⟩) ?_ ?_
        rotate_left
        · intro w'
          go_simp
          with_reducible rfl
        rotate_left
        · simp only [Act.put, List.setIfInBounds_toArray, List.set_cons_zero, List.set_cons_succ]
          rfl
        refine PrintLast.take_ (i := 10) (N := some 32) (v := ?_) (a' := ?_) #[true, true, true, true, true, false, false, true, false, true, true, false, false, false, false, false, false, false] rfl rfl (by kernel_rfl) (fun _ _ _ h => h) (Or.inl ⟨by rfl, ?_⟩) hHeld ?_ ?_
        rotate_left
        · intro w' s0
          (have g1 := cell_stay s0 hx2; go_simp; with_reducible rfl)
        rotate_left
        · simp only [Act.put, List.setIfInBounds_toArray, List.set_cons_zero, List.set_cons_succ]
          rfl
        refine PrintLast.pure_ (i := 11) (N := some 33) (v := ?_) (a' := ?_) #[true, true, true, true, true, false, false, true, false, true, true, true, false, false, false, false, false, false] rfl rfl (by kernel_rfl) (fun _ _ _ h => h) (Or.inl ⟨by rfl, ?_⟩) ?_ ?_
        rotate_left
        · intro w'
          go_simp
          with_reducible rfl
        rotate_left
        · simp only [Act.put, List.setIfInBounds_toArray, List.set_cons_zero, List.set_cons_succ]
          rfl
        refine PrintLast.pure_ (i := 12) (N := some 34) (v := ?_) (a' := ?_) #[true, true, true, true, true, false, false, true, false, true, true, true, true, false, false, false, false, false] rfl rfl (by kernel_rfl) (fun _ _ _ h => h) (Or.inl ⟨by rfl, ?_⟩) ?_ ?_
        rotate_left
        · intro w'
          go_simp
          with_reducible rfl
        rotate_left
        · simp only [Act.put, List.setIfInBounds_toArray, List.set_cons_zero, List.set_cons_succ]
          rfl
        refine PrintLast.take_ (i := 13) (N := some 35) (v := .agg (encF (.slice P f.1.length p) f.2.1 f.2.2.1 (.slice MM f.2.2.2.length q)).toArray) (a' := ?_) #[true, true, true, true, true, false, false, true, false, true, true, true, true, true, false, false, false, false] rfl rfl (by kernel_rfl) (fun _ _ _ h => h) (Or.inl ⟨by rfl, ?_⟩) hHeld ?_ ?_
        skip
        · intro w' s0
          exact Fl.exec_load (ty := 93) (x := .tmp 34) (ad := ad.add (k * 35)) (cs := (encF (.slice P f.1.length p) f.2.1 f.2.2.1 (.slice MM f.2.2.2.length q)).toArray) (by rfl) (by rfl) (Fl.run_load (fun j u hj => cell_stay s0 (HY.out j u hj)) Try.underlying93 rfl (sizeF (encF_len _ _ _ _)))
        rotate_left
        · simp only [Act.put, List.setIfInBounds_toArray, List.set_cons_zero, List.set_cons_succ]
          rfl
        refine PrintLast.one_ (i := 5) (N := some 27) #[true, true, true, true, true, true, false, true, false, true, true, true, true, true, false, false, false, false] rfl rfl (by kernel_rfl) (by decide) (fun K hK => ?_)
        refine PrintLast.goes_ Try.func55 (by kernel_rfl) rfl #[.agg (#[.string m.1, .int .i64 m.2.1, .slice (some ad) m.2.2.1.length cF, .slice AL m.2.2.2.1.length cL, .slice AI m.2.2.2.2.1.length cI, .slice AT m.2.2.2.2.2.length cT] : Array Value)] (by rfl) rfl rfl (by simp only [List.map_toArray, List.map_cons, List.map_nil]; rfl) ?_
        refine (pieces_any m _ _ (KMeta.K_below (below_step HB.out hHeld) HK.out)).mono ?_
        rintro e W1 ⟨rfl, hpc_gp, hst⟩
        have hst1 := below_step hHeld hst
        refine ⟨_, rfl, ?_⟩
        refine hK.out _ _ hst1 (fun hHeld => ?_)
        clear hK K
        refine PrintLast.norm_ (a' := ?_) ?_ ?_
        rotate_left
        · show Act.put _ (some 27) _ = _
          simp only [Act.put, List.setIfInBounds_toArray, List.set_cons_zero, List.set_cons_succ]
          rfl
        clear hst
        obtain ⟨gp, hgp⟩ : ∃ gp, gp = W0.heap.size := ⟨_, rfl⟩
        rw [← hgp] at hpc_gp ⊢
        clear hgp
        refine PrintLast.one_ (i := 6) (N := some 28) #[true, true, true, true, true, true, true, true, false, true, true, true, true, true, false, false, false, false] rfl rfl (by kernel_rfl) (by decide) (fun K hK => ?_)
        refine PrintLast.goes_ Try.func54 (by kernel_rfl) rfl #[.slice (some ad) k cF, .func (.func 83) #[] #[.pointer (some ⟨gp, 0, none⟩)]] (by rfl) rfl rfl (by simp only [List.map_toArray, List.map_cons, List.map_nil]; rfl) ?_
        refine (HSU.out _ (below_step HB.out hHeld) hpc_gp).mono ?_
        rintro e W2 ⟨rfl, hst⟩
        have hst2 := below_step hHeld hst
        refine ⟨_, rfl, ?_⟩
        refine hK.out _ _ hst2 (fun hHeld => ?_)
        clear hK K
        refine PrintLast.norm_ (a' := ?_) ?_ ?_
        rotate_left
        · show Act.put _ (some 28) _ = _
          simp only [Act.put, List.setIfInBounds_toArray, List.set_cons_zero, List.set_cons_succ]
          rfl
        clear hst
        refine PrintLast.one_ (i := 8) (N := some 30) #[true, true, true, true, true, true, true, true, true, true, true, true, true, true, false, false, false, false] rfl rfl (by kernel_rfl) (by decide) (fun K hK => ?_)
        refine PrintLast.goes_ Try.func55 (by kernel_rfl) rfl #[.agg (#[.string m.1, .int .i64 m.2.1, .slice (some ad) m.2.2.1.length cF, .slice AL m.2.2.2.1.length cL, .slice AI m.2.2.2.2.1.length cI, .slice AT m.2.2.2.2.2.length cT] : Array Value)] (by rfl) rfl rfl (by simp only [List.map_toArray, List.map_cons, List.map_nil]; rfl) ?_
        refine (pieces_any m _ _ (KMeta.K_below (below_step HB.out hHeld) HK.out)).mono ?_
        rintro e W3 ⟨rfl, hpc_gq, hst⟩
        have hst1 := below_step hHeld hst
        refine ⟨_, rfl, ?_⟩
        refine hK.out _ _ hst1 (fun hHeld => ?_)
        clear hK K
        refine PrintLast.norm_ (a' := ?_) ?_ ?_
        rotate_left
        · show Act.put _ (some 30) _ = _
          simp only [Act.put, List.setIfInBounds_toArray, List.set_cons_zero, List.set_cons_succ]
          rfl
        clear hst
        obtain ⟨gq, hgq⟩ : ∃ gp, gp = W2.heap.size := ⟨_, rfl⟩
        rw [← hgq] at hpc_gq ⊢
        clear hgq
        refine PrintLast.one_ (i := 14) (N := some 36) #[true, true, true, true, true, true, true, true, true, true, true, true, true, true, true, false, false, false] rfl rfl (by kernel_rfl) (by decide) (fun K hK => ?_)
        refine PrintLast.call_ 83 #[.agg (encF (.slice P f.1.length p) f.2.1 f.2.2.1 (.slice MM f.2.2.2.length q)).toArray, .pointer (some ⟨gq, 0, none⟩)] (by rfl) rfl ?_ ?_
        · have he := PrintLast.enters_ (P := Try.prog) Try.func83 (by kernel_rfl) rfl #[.agg (encF (.slice P f.1.length p) f.2.1 f.2.2.1 (.slice MM f.2.2.2.length q)).toArray, .pointer (some ⟨gq, 0, none⟩)] W3
          unfold execOp
          simp [resolve, Deferred.ofValue, invoke, Act.eval, he]
        refine (pieces1_any f _ gq m.2.1 _ (KFile.K_below (below_step HB.out hHeld) HKF.out) hpc_gq hpl).mono ?_
        rintro e W4 ⟨rfl, hst⟩
        have hst2 := below_step hHeld hst
        refine ⟨_, rfl, ?_⟩
        refine hK.out _ _ hst2 (fun hHeld => ?_)
        clear hK K
        refine PrintLast.norm_ (a' := ?_) ?_ ?_
        rotate_left
        · show Act.put _ (some 36) _ = _
          simp only [Act.put, List.setIfInBounds_toArray, List.set_cons_zero, List.set_cons_succ]
          rfl
        clear hst
        refine PrintLast.pure_ (i := 15) (N := some 4) (v := ?_) (a' := ?_) #[true, true, true, true, true, true, true, true, true, true, true, true, true, true, true, true, false, false] rfl rfl (by kernel_rfl) (fun _ _ _ h => h) (Or.inl ⟨by rfl, ?_⟩) ?_ ?_
        rotate_left
        · intro w'
          go_simp
          with_reducible rfl
        rotate_left
        · simp only [Act.put, List.setIfInBounds_toArray, List.set_cons_zero, List.set_cons_succ]
          rfl
        refine PrintLast.pure_ (i := 16) (N := some 5) (v := ?_) (a' := ?_) #[true, true, true, true, true, true, true, true, true, true, true, true, true, true, true, true, true, false] rfl rfl (by kernel_rfl) (fun _ _ _ h => h) (Or.inl ⟨by rfl, ?_⟩) ?_ ?_
        rotate_left
        · intro w'
          go_simp
          with_reducible rfl
        rotate_left
        · simp only [Act.put, List.setIfInBounds_toArray, List.set_cons_zero, List.set_cons_succ]
          rfl
        refine PrintLast.pure_ (i := 17) (N := some 6) (v := ?_) (a' := ?_) #[true, true, true, true, true, true, true, true, true, true, true, true, true, true, true, true, true, true] rfl rfl (by kernel_rfl) (fun _ _ _ h => h) (Or.inl ⟨by rfl, ?_⟩) ?_ ?_
        rotate_left
        · intro w'
          go_simp
          with_reducible rfl
        rotate_left
        · simp only [Act.put, List.setIfInBounds_toArray, List.set_cons_zero, List.set_cons_succ]
          rfl
        refine PrintLast.done_ (by kernel_rfl) ?_
        go_wp2
        go_ret3
        exact ⟨by rw [E1.out]; rfl, below_step HB.out hHeld⟩
  · have e1 : cRow m file = (0, 0, cfault m) := by unfold cRow; rw [if_neg hf]
    have E1 := Lib.hid e1
    clear e1
    have b1 : (cfault m == 0) = false := by simp [hf]
    have b2 : (cfault m != 0) = true := by simp [hf]
    go_wp2
    go_ret3
    exact ⟨by rw [E1.out]; rfl, HB.out⟩
end Cr
end Go.Proofs.Ytjeeakhgjcbhaaa
set_option linter.unusedVariables false
set_option linter.unusedSimpArgs false
namespace Go.Proofs.Ytjeeakhgjcbhaaa
open Go.RowKit Go.Proofs.YtjeeakhgjcbhaaaW.PrintWords Go.Proofs.YtjeeakhgjcbhaaaW Go.Proofs.YtjeeakhgjcbhaaaW.PrintMore
namespace Cr
open Wd Vl Mt
def pxl (L : List PlD) (k : Nat) : PlD := L.getD k (0, 0, 0, 0)
def cnt (f : PlD → Bool) (l : List PlD) : Nat := (l.filter f).length
theorem cnt_snoc (f : PlD → Bool) (l : List PlD) (p : PlD) : cnt f (l ++ [p]) = cnt f l + (if f p = true then 1 else 0) := by
  unfold cnt
  rw [List.filter_append, List.length_append]
  by_cases h : f p = true <;> simp [h]
theorem cnt_le (f : PlD → Bool) (l : List PlD) (k : Nat) : cnt f (l.take k) ≤ k := by
  unfold cnt
  exact Nat.le_trans (List.length_filter_le _ _) (by rw [List.length_take]; omega)
/-- Row, as the reference tells it. -/
def refRow (m : MetaD) (file : Int) : Int × Int × Int := if cfault m = 0 then (if 0 ≤ file ∧ file < m.2.2.1.length then ((cnt (fun q => decide (q.1 < file)) (pls m.2.1 m.2.2.1 0) : Nat), (cnt (fun q => q.1 == file) (pls m.2.1 m.2.2.1 0) : Nat), 0) else (0, 0, 90)) else (0, 0, cfault m)
set_option maxHeartbeats 4000000 in
set_option maxRecDepth 100000 in
theorem refRow_any (m : MetaD) (cs : List Value) (file : Int) (w : World) (hK : KMeta.K w m cs) (hG : GMeta m) :
    Calls Try.prog 22 #[.agg cs.toArray, .int .i64 file] w fun e w' => e = .returned (.tuple #[.int .i64 (refRow m file).1, .int .i64 (refRow m file).2.1, .int .i64 (refRow m file).2.2]) ∧ Below w.heap.size w w' := by
  obtain ⟨AF, cF, AL, cL, AI, cI, AT, cT, rfl, hF, _⟩ := meta_open hK
  have q1 : m.2.2.1.length * 88 ≤ 140737488351232 := hG.2.1.1
  have HF := Aside0.mk hF
  have HK := Aside0.mk hK
  have HB0 : Aside0 (Below w.heap.size w (w.alloc (.cells #[.string m.1, .int .i64 m.2.1, .slice AF m.2.2.1.length cF, .slice AL m.2.2.2.1.length cL, .slice AI m.2.2.2.2.1.length cI, .slice AT m.2.2.2.2.2.length cT] 46))) := ⟨below_alloc (Below.refl w.heap.size w) (.cells #[.string m.1, .int .i64 m.2.1, .slice AF m.2.2.1.length cF, .slice AL m.2.2.2.1.length cL, .slice AI m.2.2.2.2.1.length cI, .slice AT m.2.2.2.2.2.length cT] 46)⟩
  have HX0 : Aside0 ((w.alloc (.cells #[.string m.1, .int .i64 m.2.1, .slice AF m.2.2.1.length cF, .slice AL m.2.2.2.1.length cL, .slice AI m.2.2.2.2.1.length cI, .slice AT m.2.2.2.2.2.length cT] 46)).heap[w.heap.size]? = some (.cells #[.string m.1, .int .i64 m.2.1, .slice AF m.2.2.1.length cF, .slice AL m.2.2.2.1.length cL, .slice AI m.2.2.2.2.1.length cI, .slice AT m.2.2.2.2.2.length cT] 46)) := ⟨heap_alloc_new w _⟩
  have HZ : Hid (∀ j u, ([.string m.1, .int .i64 m.2.1, .slice AF m.2.2.1.length cF, .slice AL m.2.2.2.1.length cL, .slice AI m.2.2.2.2.1.length cI, .slice AT m.2.2.2.2.2.length cT] : List Value)[j]? = some u → (w.alloc (.cells #[.string m.1, .int .i64 m.2.1, .slice AF m.2.2.1.length cF, .slice AL m.2.2.2.1.length cL, .slice AI m.2.2.2.2.1.length cI, .slice AT m.2.2.2.2.2.length cT] 46)).cell? ((⟨w.heap.size, 0, none⟩ : Addr).add j) = some u) := Lib.hid fun j u hj => by rw [Go.WideShapes.add_plain, Go.Joins.cell_of_block HX0.out, List.getElem?_toArray, Nat.zero_add]; exact hj
  have HG := Lib.hid hG
  have HFA := Lib.hid (refFault_any m _ _ (KMeta.K_below HB0.out hK) hG)
  clear hF hK hG
  go_enter Try.func22, Try.ntmps22
  go_wp2_with ((with_reducible refine Fl.wpList_load rfl 46 (.tmp 2) rfl (⟨w.heap.size, 0, none⟩) ?lx ([.string m.1, .int .i64 m.2.1, .slice AF m.2.2.1.length cF, .slice AL m.2.2.2.1.length cL, .slice AI m.2.2.2.2.1.length cI, .slice AT m.2.2.2.2.2.length cT]) _ ?lc Try.underlying46 rfl ?li ?_); (case lx => rfl); (case lc => exact HZ.out); (case li => exact (by kernel_rfl)))
  go_at_call 56
  refine HFA.out.mono ?_
  rintro e wr ⟨rfl, hb1⟩
  have HX := Aside0.mk (blk_below HX0.out hb1)
  have HB := Aside0.mk (below_step HB0.out hb1)
  have HZ2 : Hid (∀ j u, ([.string m.1, .int .i64 m.2.1, .slice AF m.2.2.1.length cF, .slice AL m.2.2.2.1.length cL, .slice AI m.2.2.2.2.1.length cI, .slice AT m.2.2.2.2.2.length cT] : List Value)[j]? = some u → wr.cell? ((⟨w.heap.size, 0, none⟩ : Addr).add j) = some u) := Lib.hid fun j u hj => by rw [Go.WideShapes.add_plain, Go.Joins.cell_of_block HX.out, List.getElem?_toArray, Nat.zero_add]; exact hj
  clear hb1 HX0 HB0 HZ HFA
  have hx2 : wr.cell? ⟨w.heap.size, 2, none⟩ = some (.slice AF m.2.2.1.length cF) := Go.Joins.cell_of_block HX.out 2
  by_cases hf : cfault m = 0
  · by_cases h0 : file < 0
    · have b0 : decide (file < 0) = true := decide_eq_true h0
      have e1 : refRow m file = (0, 0, 90) := by unfold refRow; rw [if_pos hf, if_neg (by omega)]
      have E1 := Lib.hid e1
      clear e1
      rw [hf]
      go_wp2
      go_ret3
      exact ⟨by rw [E1.out]; rfl, HB.out⟩
    · have b0 : decide (file < 0) = false := decide_eq_false h0
      by_cases h1 : file ≥ m.2.2.1.length
      · have b1 : decide (file ≥ (m.2.2.1.length : Int)) = true := decide_eq_true h1
        have e1 : refRow m file = (0, 0, 90) := by unfold refRow; rw [if_pos hf, if_neg (by omega)]
        have E1 := Lib.hid e1
        clear e1
        rw [hf]
        go_wp2
        go_ret3
        exact ⟨by rw [E1.out]; rfl, HB.out⟩
      · have b1 : decide (file ≥ (m.2.2.1.length : Int)) = false := decide_eq_false h1
        have e1 : refRow m file = (((cnt (fun q => decide (q.1 < file)) (pls m.2.1 m.2.2.1 0) : Nat) : Int), ((cnt (fun q => q.1 == file) (pls m.2.1 m.2.2.1 0) : Nat) : Int), 0) := by unfold refRow; rw [if_pos hf, if_pos (by omega)]
        have E1 := Lib.hid e1
        have HPL := Lib.hid (refPlaces_any m _ wr (KMeta.K_below HB.out HK.out) HG.out hf)
        have hmany := (cfault_ok hf).2.2.2.2.2
        clear e1
        rw [hf]
        go_wp2_with ((with_reducible refine Fl.wpList_load rfl 46 (.tmp 2) rfl (⟨w.heap.size, 0, none⟩) ?lx ([.string m.1, .int .i64 m.2.1, .slice AF m.2.2.1.length cF, .slice AL m.2.2.2.1.length cL, .slice AI m.2.2.2.2.1.length cI, .slice AT m.2.2.2.2.2.length cT]) _ ?lc Try.underlying46 rfl ?li ?_); (case lx => rfl); (case lc => exact HZ2.out); (case li => exact (by kernel_rfl)))
        go_at_call 57
        refine HPL.out.mono ?_
        rintro e w2 ⟨A, c, rfl, hR, hb2⟩
        have HR := Aside0.mk hR
        have HB2 := Aside0.mk (below_step HB.out hb2)
        clear hR hb2 hf HPL h0 h1 b0 b1
        generalize pls m.2.1 m.2.2.1 0 = L at *
        go_wp2
        go_loopw [8, 9, 11] (fun a b i wz => ∃ k : Nat, k ≤ L.length ∧ i = .int .i64 k ∧ a = .int .i64 (cnt (fun q => decide (q.1 < file)) (L.take k) : Nat) ∧ b = .int .i64 (cnt (fun q => q.1 == file) (L.take k) : Nat) ∧ wz = w2) (fun a b i _ => L.length - (intOf i).toNat)
        case atStart => exact ⟨0, by omega, rfl, rfl, rfl, rfl⟩
        case round =>
          obtain ⟨k, hk, rfl, rfl, rfl, rfl⟩ := hrel
          by_cases hlt : k < L.length
          · skip
            obtain ⟨ad, e0, hc⟩ := Fl.at_flat (0, 0, 0, 0) HR.out k hlt
            subst e0
            have hc0 : wr.cell? (ad.add (k * 4)) = some (.int .i64 (pxl L k).1) := hc 0 _ rfl
            have HT : Hid (L.take (k + 1) = L.take k ++ [pxl L k]) := Lib.hid (by rw [List.take_succ_eq_append_getElem hlt]; unfold pxl; rw [List.getD_eq_getElem?_getD, List.getElem?_eq_getElem hlt]; rfl)
            clear hc
            generalize pxl L k = p at *
            have c1 := cnt_snoc (fun q : PlD => decide (q.1 < file)) (L.take k) p
            have c2 := cnt_snoc (fun q : PlD => q.1 == file) (L.take k) p
            have hk1 : cnt (fun q : PlD => decide (q.1 < file)) (L.take k) ≤ k := cnt_le _ _ k
            have hk2 : cnt (fun q : PlD => q.1 == file) (L.take k) ≤ k := cnt_le _ _ k
            rw [← HT.out] at c1 c2
            have C1 := Lib.hid c1
            have C2 := Lib.hid c2
            clear c1 c2
            by_cases h1 : p.1 < file
            · have b1 : decide (p.1 < file) = true := decide_eq_true h1
              have b2 : (p.1 == file) = false := beq_eq_false_iff_ne.2 (by omega)
              go_wp2
              go_roundw
              case rel => exact ⟨k + 1, by omega, by go_num, by have := C1.out; simp only [b1] at this; rw [this]; go_num, by have := C2.out; simp only [b2] at this; rw [this]; rfl, by first | rfl | trivial⟩
              case measure => simp [intOf]; omega
            · have b1 : decide (p.1 < file) = false := decide_eq_false h1
              by_cases h2 : p.1 = file
              · have b2 : (p.1 == file) = true := beq_iff_eq.2 h2
                go_wp2
                go_roundw
                case rel => exact ⟨k + 1, by omega, by go_num, by have := C1.out; simp only [b1] at this; rw [this]; rfl, by have := C2.out; simp only [b2] at this; rw [this]; go_num, by first | rfl | trivial⟩
                case measure => simp [intOf]; omega
              · have b2 : (p.1 == file) = false := beq_eq_false_iff_ne.2 h2
                go_wp2
                go_roundw
                case rel => exact ⟨k + 1, by omega, by go_num, by have := C1.out; simp only [b1] at this; rw [this]; rfl, by have := C2.out; simp only [b2] at this; rw [this]; rfl, by first | rfl | trivial⟩
                case measure => simp [intOf]; omega
          · have ek : L.take k = L := by rw [show k = L.length by omega, List.take_length]
            rw [ek]
            go_wp2
            go_ret3
            exact ⟨by rw [E1.out]; rfl, HB2.out⟩
  · have e1 : refRow m file = (0, 0, cfault m) := by unfold refRow; rw [if_neg hf]
    have E1 := Lib.hid e1
    clear e1
    have b1 : (cfault m == 0) = false := by simp [hf]
    have b2 : (cfault m != 0) = true := by simp [hf]
    go_wp2
    go_ret3
    exact ⟨by rw [E1.out]; rfl, HB.out⟩
end Cr
end Go.Proofs.Ytjeeakhgjcbhaaa
set_option linter.unusedVariables false
set_option linter.unusedSimpArgs false
namespace Go.Proofs.Ytjeeakhgjcbhaaa
open Go.RowKit Go.Proofs.YtjeeakhgjcbhaaaW.PrintWords Go.Proofs.YtjeeakhgjcbhaaaW Go.Proofs.YtjeeakhgjcbhaaaW.PrintMore
namespace Cr
open Wd Vl Mt PCreateBlocks
theorem cRow_ok {m : MetaD} {file : Int} (h : (cRow m file).2.2 = 0) : cfault m = 0 ∧ 0 ≤ file ∧ file < m.2.2.1.length := by
  unfold cRow at h
  by_cases hf : cfault m = 0
  · rw [if_pos hf] at h
    by_cases h1 : 0 ≤ file ∧ file < m.2.2.1.length
    · exact ⟨hf, h1⟩
    · rw [if_neg h1] at h
      exact absurd h (by decide)
  · rw [if_neg hf] at h
    exact absurd h hf
/-- At, as create tells it. -/
def cAt (m : MetaD) (file off : Int) : Int × Int × Int := if (cRow m file).2.2 = 0 then (if 0 ≤ off ∧ off < (m.2.2.1.getD file.toNat f0).2.1 then (wrap64 ((cRow m file).1 + wrap64 (Int.tdiv off m.2.1)), Int.tmod off m.2.1, 0) else (0, 0, 93)) else (0, 0, (cRow m file).2.2)
set_option maxHeartbeats 4000000 in
set_option maxRecDepth 100000 in
theorem At_any (m : MetaD) (cs : List Value) (file off : Int) (w : World) (hK : KMeta.K w m cs) (hG : GMeta m) :
    Calls Try.prog 25 #[.agg cs.toArray, .int .i64 file, .int .i64 off] w fun e w' => e = .returned (.tuple #[.int .i64 (cAt m file off).1, .int .i64 (cAt m file off).2.1, .int .i64 (cAt m file off).2.2]) ∧ Below w.heap.size w w' := by
  obtain ⟨AF, cF, AL, cL, AI, cI, AT, cT, rfl, hF, _⟩ := meta_open hK
  have q1 : m.2.2.1.length * 88 ≤ 140737488351232 := hG.2.1.1
  have HF := Aside0.mk hF
  have HK := Aside0.mk hK
  have HB0 : Aside0 (Below w.heap.size w (w.alloc (.cells #[.string m.1, .int .i64 m.2.1, .slice AF m.2.2.1.length cF, .slice AL m.2.2.2.1.length cL, .slice AI m.2.2.2.2.1.length cI, .slice AT m.2.2.2.2.2.length cT] 46))) := ⟨below_alloc (Below.refl w.heap.size w) (.cells #[.string m.1, .int .i64 m.2.1, .slice AF m.2.2.1.length cF, .slice AL m.2.2.2.1.length cL, .slice AI m.2.2.2.2.1.length cI, .slice AT m.2.2.2.2.2.length cT] 46)⟩
  have HX0 : Aside0 ((w.alloc (.cells #[.string m.1, .int .i64 m.2.1, .slice AF m.2.2.1.length cF, .slice AL m.2.2.2.1.length cL, .slice AI m.2.2.2.2.1.length cI, .slice AT m.2.2.2.2.2.length cT] 46)).heap[w.heap.size]? = some (.cells #[.string m.1, .int .i64 m.2.1, .slice AF m.2.2.1.length cF, .slice AL m.2.2.2.1.length cL, .slice AI m.2.2.2.2.1.length cI, .slice AT m.2.2.2.2.2.length cT] 46)) := ⟨heap_alloc_new w _⟩
  have HZ : Hid (∀ j u, ([.string m.1, .int .i64 m.2.1, .slice AF m.2.2.1.length cF, .slice AL m.2.2.2.1.length cL, .slice AI m.2.2.2.2.1.length cI, .slice AT m.2.2.2.2.2.length cT] : List Value)[j]? = some u → (w.alloc (.cells #[.string m.1, .int .i64 m.2.1, .slice AF m.2.2.1.length cF, .slice AL m.2.2.2.1.length cL, .slice AI m.2.2.2.2.1.length cI, .slice AT m.2.2.2.2.2.length cT] 46)).cell? ((⟨w.heap.size, 0, none⟩ : Addr).add j) = some u) := Lib.hid fun j u hj => by rw [Go.WideShapes.add_plain, Go.Joins.cell_of_block HX0.out, List.getElem?_toArray, Nat.zero_add]; exact hj
  have HRA := Lib.hid (Row_any m _ file _ (KMeta.K_below HB0.out hK) hG)
  clear hF hK hG
  go_enter Try.func25, Try.ntmps25
  go_wp2_with ((with_reducible refine Fl.wpList_load rfl 46 (.tmp 3) rfl (⟨w.heap.size, 0, none⟩) ?lx ([.string m.1, .int .i64 m.2.1, .slice AF m.2.2.1.length cF, .slice AL m.2.2.2.1.length cL, .slice AI m.2.2.2.2.1.length cI, .slice AT m.2.2.2.2.2.length cT]) _ ?lc Try.underlying46 rfl ?li ?_); (case lx => rfl); (case lc => exact HZ.out); (case li => exact (by kernel_rfl)))
  go_at_call 21
  refine HRA.out.mono ?_
  rintro e wr ⟨rfl, hb1⟩
  have HX := Aside0.mk (blk_below HX0.out hb1)
  have HB := Aside0.mk (below_step HB0.out hb1)
  clear hb1 HX0 HB0 HZ HRA
  have hx1 : wr.cell? ⟨w.heap.size, 1, none⟩ = some (.int .i64 m.2.1) := Go.Joins.cell_of_block HX.out 1
  have hx2 : wr.cell? ⟨w.heap.size, 2, none⟩ = some (.slice AF m.2.2.1.length cF) := Go.Joins.cell_of_block HX.out 2
  have hcr : ∀ h : (cRow m file).2.2 = 0, _ := fun h => cRow_ok h
  have HCA : Hid (cAt m file off = if (cRow m file).2.2 = 0 then (if 0 ≤ off ∧ off < (m.2.2.1.getD file.toNat f0).2.1 then (wrap64 ((cRow m file).1 + wrap64 (Int.tdiv off m.2.1)), Int.tmod off m.2.1, 0) else (0, 0, 93)) else (0, 0, (cRow m file).2.2)) := Lib.hid rfl
  generalize (cRow m file).1 = r1 at *
  generalize (cRow m file).2.1 = r2 at *
  generalize (cRow m file).2.2 = r3 at *
  by_cases h3 : r3 = 0
  · obtain ⟨hf, hf0, hf1⟩ := hcr h3
    have hpl : m.2.1 ≠ 0 := cfault_pl hf
    have hplb : (m.2.1 == 0) = false := by simp [hpl]
    obtain ⟨k, rfl⟩ : ∃ k : Nat, file = k := ⟨file.toNat, by omega⟩
    have hlt : k < m.2.2.1.length := by omega
    obtain ⟨ad, cs, e0, hl35, hfk, hcs⟩ := at_file HF.out k hlt
    subst e0
    have hy1 : wr.cell? ⟨(ad.add (k * 35)).block, (ad.add (k * 35)).off + 1, none⟩ = some (.int .i64 (m.2.2.1.getD k f0).2.1) := cell_stay HB.out (Fl.fcell 1 (by omega) (hcs 1 _ (by obtain ⟨P, p, MM, q, rfl, _⟩ := file_open hfk; rfl)))
    have HE := HCA.out
    rw [if_pos h3, Int.toNat_natCast] at HE
    have HE' := Lib.hid HE
    clear hfk hcs hl35 HCA HE hcr
    generalize (m.2.2.1.getD k f0).2.1 = len at *
    subst h3
    by_cases h0 : off < 0
    · have b0 : decide (off < 0) = true := decide_eq_true h0
      have E1 := Lib.hid (HE'.out.trans (if_neg (by omega)))
      go_wp2
      go_ret3
      exact ⟨by rw [E1.out]; rfl, HB.out⟩
    · have b0 : decide (off < 0) = false := decide_eq_false h0
      by_cases h1 : off ≥ len
      · have b1 : decide (off ≥ len) = true := decide_eq_true h1
        have E1 := Lib.hid (HE'.out.trans (if_neg (by omega)))
        go_wp2
        go_ret3
        exact ⟨by rw [E1.out]; rfl, HB.out⟩
      · have b1 : decide (off ≥ len) = false := decide_eq_false h1
        have E1 := Lib.hid (HE'.out.trans (if_pos (by omega)))
        go_upto_region 6 with fail
        go_quiet (fail)
        go_wp2
        go_ret3
        exact ⟨by rw [E1.out, Int.tmod_eq_emod_of_nonneg (by omega)]; rfl, below_drewN HB.out _⟩
  · have E1 := Lib.hid (HCA.out.trans (if_neg h3))
    have b1 : (r3 == 0) = false := by simp [h3]
    have b2 : (r3 != 0) = true := by simp [h3]
    go_wp2
    go_ret3
    exact ⟨by rw [E1.out]; rfl, HB.out⟩
end Cr
end Go.Proofs.Ytjeeakhgjcbhaaa
set_option linter.unusedVariables false
set_option linter.unusedSimpArgs false
namespace Go.Proofs.Ytjeeakhgjcbhaaa
open Go.RowKit Go.Proofs.YtjeeakhgjcbhaaaW.PrintWords Go.Proofs.YtjeeakhgjcbhaaaW Go.Proofs.YtjeeakhgjcbhaaaW.PrintMore
namespace Cr
open Wd Vl Mt
/-- The search for a byte among the places. -/
def findAt (file off : Int) : List PlD → Int → Int × Int × Int
  | [], _ => (0, 0, 93)
  | p :: l, i => if p.1 = file ∧ p.2.2.1 ≤ off ∧ off < wrap64 (p.2.2.1 + p.2.2.2) then (i, wrap64 (off - p.2.2.1), 0) else findAt file off l (i + 1)
theorem findAt_cons (file off : Int) (p : PlD) (l : List PlD) (i : Int) : findAt file off (p :: l) i = if p.1 = file ∧ p.2.2.1 ≤ off ∧ off < wrap64 (p.2.2.1 + p.2.2.2) then (i, wrap64 (off - p.2.2.1), 0) else findAt file off l (i + 1) := rfl
theorem findAt_nil (file off i : Int) : findAt file off [] i = (0, 0, 93) := rfl
def refAt (m : MetaD) (file off : Int) : Int × Int × Int := if cfault m = 0 then (if 0 ≤ file ∧ file < m.2.2.1.length then findAt file off (pls m.2.1 m.2.2.1 0) 0 else (0, 0, 90)) else (0, 0, cfault m)
set_option maxHeartbeats 4000000 in
set_option maxRecDepth 100000 in
theorem refAt_any (m : MetaD) (cs : List Value) (file off : Int) (w : World) (hK : KMeta.K w m cs) (hG : GMeta m) :
    Calls Try.prog 26 #[.agg cs.toArray, .int .i64 file, .int .i64 off] w fun e w' => e = .returned (.tuple #[.int .i64 (refAt m file off).1, .int .i64 (refAt m file off).2.1, .int .i64 (refAt m file off).2.2]) ∧ Below w.heap.size w w' := by
  obtain ⟨AF, cF, AL, cL, AI, cI, AT, cT, rfl, hF, _⟩ := meta_open hK
  have q1 : m.2.2.1.length * 88 ≤ 140737488351232 := hG.2.1.1
  have HF := Aside0.mk hF
  have HK := Aside0.mk hK
  have HB0 : Aside0 (Below w.heap.size w (w.alloc (.cells #[.string m.1, .int .i64 m.2.1, .slice AF m.2.2.1.length cF, .slice AL m.2.2.2.1.length cL, .slice AI m.2.2.2.2.1.length cI, .slice AT m.2.2.2.2.2.length cT] 46))) := ⟨below_alloc (Below.refl w.heap.size w) (.cells #[.string m.1, .int .i64 m.2.1, .slice AF m.2.2.1.length cF, .slice AL m.2.2.2.1.length cL, .slice AI m.2.2.2.2.1.length cI, .slice AT m.2.2.2.2.2.length cT] 46)⟩
  have HX0 : Aside0 ((w.alloc (.cells #[.string m.1, .int .i64 m.2.1, .slice AF m.2.2.1.length cF, .slice AL m.2.2.2.1.length cL, .slice AI m.2.2.2.2.1.length cI, .slice AT m.2.2.2.2.2.length cT] 46)).heap[w.heap.size]? = some (.cells #[.string m.1, .int .i64 m.2.1, .slice AF m.2.2.1.length cF, .slice AL m.2.2.2.1.length cL, .slice AI m.2.2.2.2.1.length cI, .slice AT m.2.2.2.2.2.length cT] 46)) := ⟨heap_alloc_new w _⟩
  have HZ : Hid (∀ j u, ([.string m.1, .int .i64 m.2.1, .slice AF m.2.2.1.length cF, .slice AL m.2.2.2.1.length cL, .slice AI m.2.2.2.2.1.length cI, .slice AT m.2.2.2.2.2.length cT] : List Value)[j]? = some u → (w.alloc (.cells #[.string m.1, .int .i64 m.2.1, .slice AF m.2.2.1.length cF, .slice AL m.2.2.2.1.length cL, .slice AI m.2.2.2.2.1.length cI, .slice AT m.2.2.2.2.2.length cT] 46)).cell? ((⟨w.heap.size, 0, none⟩ : Addr).add j) = some u) := Lib.hid fun j u hj => by rw [Go.WideShapes.add_plain, Go.Joins.cell_of_block HX0.out, List.getElem?_toArray, Nat.zero_add]; exact hj
  have HG := Lib.hid hG
  have HFA := Lib.hid (refFault_any m _ _ (KMeta.K_below HB0.out hK) hG)
  clear hF hK hG
  go_enter Try.func26, Try.ntmps26
  go_wp2_with ((with_reducible refine Fl.wpList_load rfl 46 (.tmp 3) rfl (⟨w.heap.size, 0, none⟩) ?lx ([.string m.1, .int .i64 m.2.1, .slice AF m.2.2.1.length cF, .slice AL m.2.2.2.1.length cL, .slice AI m.2.2.2.2.1.length cI, .slice AT m.2.2.2.2.2.length cT]) _ ?lc Try.underlying46 rfl ?li ?_); (case lx => rfl); (case lc => exact HZ.out); (case li => exact (by kernel_rfl)))
  go_at_call 56
  refine HFA.out.mono ?_
  rintro e wr ⟨rfl, hb1⟩
  have HX := Aside0.mk (blk_below HX0.out hb1)
  have HB := Aside0.mk (below_step HB0.out hb1)
  have HZ2 : Hid (∀ j u, ([.string m.1, .int .i64 m.2.1, .slice AF m.2.2.1.length cF, .slice AL m.2.2.2.1.length cL, .slice AI m.2.2.2.2.1.length cI, .slice AT m.2.2.2.2.2.length cT] : List Value)[j]? = some u → wr.cell? ((⟨w.heap.size, 0, none⟩ : Addr).add j) = some u) := Lib.hid fun j u hj => by rw [Go.WideShapes.add_plain, Go.Joins.cell_of_block HX.out, List.getElem?_toArray, Nat.zero_add]; exact hj
  clear hb1 HX0 HB0 HZ HFA
  have hx2 : wr.cell? ⟨w.heap.size, 2, none⟩ = some (.slice AF m.2.2.1.length cF) := Go.Joins.cell_of_block HX.out 2
  by_cases hf : cfault m = 0
  · by_cases h0 : file < 0
    · have b0 : decide (file < 0) = true := decide_eq_true h0
      have e1 : refAt m file off = (0, 0, 90) := by unfold refAt; rw [if_pos hf, if_neg (by omega)]
      have E1 := Lib.hid e1
      clear e1
      rw [hf]
      go_wp2
      go_ret3
      exact ⟨by rw [E1.out]; rfl, HB.out⟩
    · have b0 : decide (file < 0) = false := decide_eq_false h0
      by_cases h1 : file ≥ m.2.2.1.length
      · have b1 : decide (file ≥ (m.2.2.1.length : Int)) = true := decide_eq_true h1
        have e1 : refAt m file off = (0, 0, 90) := by unfold refAt; rw [if_pos hf, if_neg (by omega)]
        have E1 := Lib.hid e1
        clear e1
        rw [hf]
        go_wp2
        go_ret3
        exact ⟨by rw [E1.out]; rfl, HB.out⟩
      · have b1 : decide (file ≥ (m.2.2.1.length : Int)) = false := decide_eq_false h1
        have e1 : refAt m file off = findAt file off (pls m.2.1 m.2.2.1 0) 0 := by unfold refAt; rw [if_pos hf, if_pos (by omega)]
        have E1 := Lib.hid e1
        have HPL := Lib.hid (refPlaces_any m _ wr (KMeta.K_below HB.out HK.out) HG.out hf)
        have hmany := (cfault_ok hf).2.2.2.2.2
        clear e1
        rw [hf]
        go_wp2_with ((with_reducible refine Fl.wpList_load rfl 46 (.tmp 3) rfl (⟨w.heap.size, 0, none⟩) ?lx ([.string m.1, .int .i64 m.2.1, .slice AF m.2.2.1.length cF, .slice AL m.2.2.2.1.length cL, .slice AI m.2.2.2.2.1.length cI, .slice AT m.2.2.2.2.2.length cT]) _ ?lc Try.underlying46 rfl ?li ?_); (case lx => rfl); (case lc => exact HZ2.out); (case li => exact (by kernel_rfl)))
        go_at_call 57
        refine HPL.out.mono ?_
        rintro e w2 ⟨A, c, rfl, hR, hb2⟩
        have HR := Aside0.mk hR
        have HB2 := Aside0.mk (below_step HB.out hb2)
        clear hR hb2 hf HPL h0 h1 b0 b1
        generalize pls m.2.1 m.2.2.1 0 = L at *
        go_wp2
        go_loopw [11] (fun i wz => ∃ k q : Nat, k ≤ L.length ∧ i = .int .i64 k ∧ Hid (findAt file off (L.drop k) k = findAt file off L 0) ∧ wz = w2.drewN q) (fun i _ => L.length - (intOf i).toNat)
        case atStart => exact ⟨0, 0, by omega, rfl, Lib.hid rfl, rfl⟩
        case round =>
          obtain ⟨k, q, hk, rfl, HA, rfl⟩ := hrel
          by_cases hlt : k < L.length
          · skip
            obtain ⟨ad, e0, hc⟩ := Fl.at_flat (0, 0, 0, 0) HR.out k hlt
            subst e0
            have hc0 : w2.cell? (ad.add (k * 4)) = some (.int .i64 (L.getD k (0, 0, 0, 0)).1) := hc 0 _ rfl
            have hc2 : w2.cell? ⟨(ad.add (k * 4)).block, (ad.add (k * 4)).off + 2, none⟩ = some (.int .i64 (L.getD k (0, 0, 0, 0)).2.2.1) := Fl.fcell 2 (by omega) (hc 2 _ rfl)
            have hc3 : w2.cell? ⟨(ad.add (k * 4)).block, (ad.add (k * 4)).off + 3, none⟩ = some (.int .i64 (L.getD k (0, 0, 0, 0)).2.2.2) := Fl.fcell 3 (by omega) (hc 3 _ rfl)
            have hd : L.drop k = L.getD k (0, 0, 0, 0) :: L.drop (k + 1) := by rw [List.drop_eq_getElem_cons hlt, List.getD_eq_getElem?_getD, List.getElem?_eq_getElem hlt]; rfl
            have hA := HA.out
            rw [hd, findAt_cons] at hA
            have HA2 := Lib.hid hA
            clear hc hA hd HA
            generalize L.getD k (0, 0, 0, 0) = p at *
            by_cases h1 : p.1 = file
            · have b1 : (p.1 == file) = true := beq_iff_eq.2 h1
              by_cases h2 : p.2.2.1 ≤ off
              · have b2 : decide (p.2.2.1 ≤ off) = true := decide_eq_true h2
                by_cases h3 : off < wrap64 (p.2.2.1 + p.2.2.2)
                · have b3 : decide (off < wrap64 (p.2.2.1 + p.2.2.2)) = true := decide_eq_true h3
                  have E2 := Lib.hid (E1.out.trans (HA2.out.symm.trans (if_pos ⟨h1, h2, h3⟩)))
                  clear h1
                  go_wp2_with fail
                  go_quiet (fail)
                  go_wp2
                  go_quiet (fail)
                  go_wp2
                  go_ret3
                  exact ⟨by rw [E2.out]; rfl, below_drewN (below_drewN (below_drewN HB2.out _) _) _⟩
                · have b3 : decide (off < wrap64 (p.2.2.1 + p.2.2.2)) = false := decide_eq_false h3
                  have E2 := Lib.hid ((if_neg (fun h => h3 h.2.2)).symm.trans HA2.out)
                  clear h1
                  go_wp2_with fail
                  go_quiet (fail)
                  go_wp2
                  go_roundw
                  case rel => exact ⟨k + 1, q + nq, by omega, by go_num, Lib.hid (by rw [Int.natCast_add]; exact E2.out), by first | rfl | rw [World.drewN_drewN]⟩
                  case measure => simp [intOf]; omega
              · have b2 : decide (p.2.2.1 ≤ off) = false := decide_eq_false h2
                have E2 := Lib.hid ((if_neg (fun h => h2 h.2.1)).symm.trans HA2.out)
                clear h1
                go_wp2_with fail
                go_quiet (fail)
                go_wp2
                go_roundw
                case rel => exact ⟨k + 1, q + nq, by omega, by go_num, Lib.hid (by rw [Int.natCast_add]; exact E2.out), by first | rfl | rw [World.drewN_drewN]⟩
                case measure => simp [intOf]; omega
            · have b1 : (p.1 == file) = false := beq_eq_false_iff_ne.2 h1
              have E2 := Lib.hid ((if_neg (fun h => h1 h.1)).symm.trans HA2.out)
              go_wp2_with fail
              go_quiet (fail)
              go_wp2
              go_roundw
              case rel => exact ⟨k + 1, q + nq, by omega, by go_num, Lib.hid (by rw [Int.natCast_add]; exact E2.out), by first | rfl | rw [World.drewN_drewN]⟩
              case measure => simp [intOf]; omega
          · have hA := HA.out
            rw [show k = L.length by omega, List.drop_length, findAt_nil] at hA
            have E2 := Lib.hid (E1.out.trans hA.symm)
            clear hA
            go_wp2
            go_ret3
            exact ⟨by rw [E2.out]; rfl, below_drewN HB2.out _⟩
  · have e1 : refAt m file off = (0, 0, cfault m) := by unfold refAt; rw [if_neg hf]
    have E1 := Lib.hid e1
    clear e1
    have b1 : (cfault m == 0) = false := by simp [hf]
    have b2 : (cfault m != 0) = true := by simp [hf]
    go_wp2
    go_ret3
    exact ⟨by rw [E1.out]; rfl, HB.out⟩
end Cr
end Go.Proofs.Ytjeeakhgjcbhaaa
set_option linter.unusedVariables false
set_option linter.unusedSimpArgs false
namespace Go.Proofs.Ytjeeakhgjcbhaaa
open Go.RowKit Go.Proofs.YtjeeakhgjcbhaaaW.PrintWords Go.Proofs.YtjeeakhgjcbhaaaW Go.Proofs.YtjeeakhgjcbhaaaW.PrintMore
namespace Cr
attribute [local go_sem] max2_int min2_int max_two min_two max_three min_three max_four min_four
open Wd Vl Mt PCreateBlocks
theorem four_one (a b c d : Int) : (#[.int .i64 a, .int .i64 b, .int .i64 c, .int .i64 d] : Array Value).all (·.oneCell') = true :=
  Fl.all_one (cs := [.int .i64 a, .int .i64 b, .int .i64 c, .int .i64 d]) (by intro u hu; simp at hu; rcases hu with rfl | rfl | rfl | rfl <;> rfl)
/-- Where a piece lies: its file, its place there, its first byte, its length. -/
def cwhere (pl : Int) : List FileD → Int → Int → Option (Int × Int × Int × Int)
  | [], _, _ => none
  | f :: l, i, nth => if nth < cP f.2.1 pl then some (i, nth, wrap64 (nth * pl), mn pl (wrap64 (f.2.1 - wrap64 (nth * pl)))) else cwhere pl l (i + 1) (wrap64 (nth - cP f.2.1 pl))
theorem cwhere_nil (pl i nth : Int) : cwhere pl [] i nth = none := rfl
theorem cwhere_cons (pl : Int) (f : FileD) (l : List FileD) (i nth : Int) : cwhere pl (f :: l) i nth = if nth < cP f.2.1 pl then some (i, nth, wrap64 (nth * pl), mn pl (wrap64 (f.2.1 - wrap64 (nth * pl)))) else cwhere pl l (i + 1) (wrap64 (nth - cP f.2.1 pl)) := rfl
def WhereR (m : MetaD) (piece : Int) : Int × Int × Int × Int × Int := if cfault m = 0 then (if piece < 0 then (0, 0, 0, 0, 91) else (match cwhere m.2.1 m.2.2.1 0 piece with | some (a, b, c, d) => (a, b, c, d, 0) | none => (0, 0, 0, 0, 91))) else (0, 0, 0, 0, cfault m)
set_option maxHeartbeats 4000000 in
set_option maxRecDepth 100000 in
theorem Where_any (m : MetaD) (cs : List Value) (piece : Int) (w : World) (hK : KMeta.K w m cs) (hG : GMeta m) :
    Calls Try.prog 23 #[.agg cs.toArray, .int .i64 piece] w fun e w' => e = .returned (.tuple #[.agg #[.int .i64 (WhereR m piece).1, .int .i64 (WhereR m piece).2.1, .int .i64 (WhereR m piece).2.2.1, .int .i64 (WhereR m piece).2.2.2.1], .int .i64 (WhereR m piece).2.2.2.2]) ∧ Below w.heap.size w w' := by
  obtain ⟨AF, cF, AL, cL, AI, cI, AT, cT, rfl, hF, _⟩ := meta_open hK
  have q1 : m.2.2.1.length * 88 ≤ 140737488351232 := hG.2.1.1
  have HF := Aside0.mk hF
  have HK := Aside0.mk hK
  have HB0 : Aside0 (Below w.heap.size w ((w.alloc (.cells #[.string m.1, .int .i64 m.2.1, .slice AF m.2.2.1.length cF, .slice AL m.2.2.2.1.length cL, .slice AI m.2.2.2.2.1.length cI, .slice AT m.2.2.2.2.2.length cT] 46)).alloc (.cells #[.int .i64 0, .int .i64 0, .int .i64 0, .int .i64 0] 53))) := ⟨below_alloc (below_alloc (Below.refl w.heap.size w) (.cells #[.string m.1, .int .i64 m.2.1, .slice AF m.2.2.1.length cF, .slice AL m.2.2.2.1.length cL, .slice AI m.2.2.2.2.1.length cI, .slice AT m.2.2.2.2.2.length cT] 46)) (.cells #[.int .i64 0, .int .i64 0, .int .i64 0, .int .i64 0] 53)⟩
  have HX0 : Aside0 (((w.alloc (.cells #[.string m.1, .int .i64 m.2.1, .slice AF m.2.2.1.length cF, .slice AL m.2.2.2.1.length cL, .slice AI m.2.2.2.2.1.length cI, .slice AT m.2.2.2.2.2.length cT] 46)).alloc (.cells #[.int .i64 0, .int .i64 0, .int .i64 0, .int .i64 0] 53)).heap[w.heap.size]? = some (.cells #[.string m.1, .int .i64 m.2.1, .slice AF m.2.2.1.length cF, .slice AL m.2.2.2.1.length cL, .slice AI m.2.2.2.2.1.length cI, .slice AT m.2.2.2.2.2.length cT] 46)) := ⟨blk_alloc (heap_alloc_new w _) _⟩
  have HR0 : Aside0 (((w.alloc (.cells #[.string m.1, .int .i64 m.2.1, .slice AF m.2.2.1.length cF, .slice AL m.2.2.2.1.length cL, .slice AI m.2.2.2.2.1.length cI, .slice AT m.2.2.2.2.2.length cT] 46)).alloc (.cells #[.int .i64 0, .int .i64 0, .int .i64 0, .int .i64 0] 53)).heap[w.heap.size + 1]? = some (.cells #[.int .i64 0, .int .i64 0, .int .i64 0, .int .i64 0] 53)) := ⟨by have := heap_alloc_new (w.alloc (.cells #[.string m.1, .int .i64 m.2.1, .slice AF m.2.2.1.length cF, .slice AL m.2.2.2.1.length cL, .slice AI m.2.2.2.2.1.length cI, .slice AT m.2.2.2.2.2.length cT] 46)) (.cells #[.int .i64 0, .int .i64 0, .int .i64 0, .int .i64 0] 53); rwa [World.size_alloc] at this⟩
  have HZ : Hid (∀ j u, ([.string m.1, .int .i64 m.2.1, .slice AF m.2.2.1.length cF, .slice AL m.2.2.2.1.length cL, .slice AI m.2.2.2.2.1.length cI, .slice AT m.2.2.2.2.2.length cT] : List Value)[j]? = some u → ((w.alloc (.cells #[.string m.1, .int .i64 m.2.1, .slice AF m.2.2.1.length cF, .slice AL m.2.2.2.1.length cL, .slice AI m.2.2.2.2.1.length cI, .slice AT m.2.2.2.2.2.length cT] 46)).alloc (.cells #[.int .i64 0, .int .i64 0, .int .i64 0, .int .i64 0] 53)).cell? ((⟨w.heap.size, 0, none⟩ : Addr).add j) = some u) := Lib.hid fun j u hj => by rw [Go.WideShapes.add_plain, Go.Joins.cell_of_block HX0.out, List.getElem?_toArray, Nat.zero_add]; exact hj
  have HFA := Lib.hid (fault_any m _ _ (KMeta.K_below HB0.out hK) hG)
  clear hF hK hG
  go_enter Try.func23, Try.ntmps23
  go_wp2_with ((with_reducible refine Fl.wpList_load rfl 46 (.tmp 2) rfl (⟨w.heap.size, 0, none⟩) ?lx ([.string m.1, .int .i64 m.2.1, .slice AF m.2.2.1.length cF, .slice AL m.2.2.2.1.length cL, .slice AI m.2.2.2.2.1.length cI, .slice AT m.2.2.2.2.2.length cT]) _ ?lc Try.underlying46 rfl ?li ?_); (case lx => rfl); (case lc => exact HZ.out); (case li => exact (by kernel_rfl)))
  go_at_call 53
  refine HFA.out.mono ?_
  rintro e wr ⟨rfl, hb1⟩
  have HX := Aside0.mk (blk_below HX0.out hb1)
  have HR := Aside0.mk (blk_below HR0.out hb1)
  have HB := Aside0.mk (below_step HB0.out hb1)
  clear hb1 HX0 HR0 HB0 HZ HFA
  have hx2 : wr.cell? ⟨w.heap.size, 2, none⟩ = some (.slice AF m.2.2.1.length cF) := Go.Joins.cell_of_block HX.out 2
  by_cases hf : cfault m = 0
  · have hpl : m.2.1 ≠ 0 := cfault_pl hf
    rw [hf]
    by_cases h0 : piece < 0
    · have b0 : decide (piece < 0) = true := decide_eq_true h0
      have e1 : WhereR m piece = (0, 0, 0, 0, 91) := by unfold WhereR; rw [if_pos hf, if_pos h0]
      have E1 := Lib.hid e1
      clear e1
      have hr6 := setRow_heap wr (w.heap.size + 1) _ (#[.int .i64 0, .int .i64 0, .int .i64 0, .int .i64 0]) 53 (0, 0) HR.out
      have hb6 := below_setRowL HB.out (show w.heap.size ≤ w.heap.size + 1 by omega) (#[.int .i64 0, .int .i64 0, .int .i64 0, .int .i64 0])
      go_wp2_with (first | ((with_reducible refine Fl.wpList_build_to rfl 53 _ rfl (#[.int .i64 0, .int .i64 0, .int .i64 0, .int .i64 0]) ?bf ?_); (case bf => kernel_rfl)) | ((with_reducible refine wpList_store_row rfl 53 (.tmp 4) (.tmp 20) rfl (w.heap.size + 1) (#[.int .i64 0, .int .i64 0, .int .i64 0, .int .i64 0]) ?sx ?sy 53 _ HR.out ?si rfl ?s1 ?_); (case sx => rfl); (case sy => rfl); (case si => kernel_rfl); (case s1 => exact four_one _ _ _ _)))
      refine bodyPost_ret (results_ct rfl _ _ (w.heap.size + 1) 53 _ (0, 0) _ rfl hr6 Try.underlying53 rfl (by kernel_rfl)) rfl ?_
      exact ⟨by rw [E1.out]; rfl, hb6⟩
    · have b0 : decide (piece < 0) = false := decide_eq_false h0
      have e1 : WhereR m piece = (match cwhere m.2.1 m.2.2.1 0 piece with | some (a, b, c, d) => (a, b, c, d, 0) | none => (0, 0, 0, 0, 91)) := by unfold WhereR; rw [if_pos hf, if_neg h0]
      have E1 := Lib.hid e1
      clear e1
      go_wp2
      go_loopw [7, 25] (fun n i wz => ∃ (k : Nat) (nth : Int), k ≤ m.2.2.1.length ∧ i = .int .i64 k ∧ n = .int .i64 nth ∧ Hid (cwhere m.2.1 (m.2.2.1.drop k) k nth = cwhere m.2.1 m.2.2.1 0 piece) ∧ Aside0 (wz.heap[w.heap.size]? = some (.cells #[.string m.1, .int .i64 m.2.1, .slice AF m.2.2.1.length cF, .slice AL m.2.2.2.1.length cL, .slice AI m.2.2.2.2.1.length cI, .slice AT m.2.2.2.2.2.length cT] 46)) ∧ Aside0 (wz.heap[w.heap.size + 1]? = some (.cells #[.int .i64 0, .int .i64 0, .int .i64 0, .int .i64 0] 53)) ∧ Aside0 (Below w.heap.size w wz)) (fun n i _ => m.2.2.1.length - (intOf i).toNat)
      case atStart => exact ⟨0, piece, by omega, rfl, rfl, Lib.hid rfl, HX, HR, HB⟩
      case round =>
        clear HX HR HB hx2
        obtain ⟨k, nth, hk, rfl, rfl, HC, HX, HR, HB⟩ := hrel
        by_cases hlt : k < m.2.2.1.length
        · have hd : m.2.2.1.drop k = m.2.2.1.getD k f0 :: m.2.2.1.drop (k + 1) := by rw [List.drop_eq_getElem_cons hlt, List.getD_eq_getElem?_getD, List.getElem?_eq_getElem hlt]; rfl
          have hc := HC.out
          rw [hd] at hc
          rw [cwhere_cons] at hc
          obtain ⟨ad, cs, e0, hl35, hfk, hcs⟩ := at_file HF.out k hlt
          subst e0
          change KFile.K w (m.2.2.1.getD k f0) cs at hfk
          generalize m.2.2.1.getD k f0 = f at *
          have hf' := hfk
          obtain ⟨P, p, MM, q, rfl, _⟩ := file_open hfk
          have HY : Hid (∀ j u, (encF (.slice P f.1.length p) f.2.1 f.2.2.1 (.slice MM f.2.2.2.length q))[j]? = some u → wr.cell? ((ad.add (k * 35)).add j) = some u) := Lib.hid fun j u hj => by
            rw [Go.Deep.add_add]
            exact cell_stay HB.out (hcs j u hj)
          have HKF := Aside0.mk hf'
          have HZF := Lib.hid (zF_hold (.slice P f.1.length p) f.2.1 f.2.2.1 (.slice MM f.2.2.2.length q))
          have HC2 := Lib.hid hc
          clear hfk hf' hcs hl35 hd hc HC
          go_upto_region 9 with fail
          go_wp2_with (first | ((with_reducible refine Fl.wpList_load rfl 93 (.tmp 28) rfl (ad.add (k * 35)) ?lx (encF (.slice P f.1.length p) f.2.1 f.2.2.1 (.slice MM f.2.2.2.length q)) _ ?lc Try.underlying93 rfl ?li ?_); (case lx => rfl); (case lc => exact HY.out); (case li => exact (sizeF (encF_len _ _ _ _)))) | ((with_reducible refine Fl.wpList_store_fresh rfl 93 (.tmp 9) (.tmp 29) rfl 93 _ (encF (.slice P f.1.length p) f.2.1 f.2.2.1 (.slice MM f.2.2.2.length q)).toArray ?sx ?sy ?si ?so ?s1 ?_); (case sx => rfl); (case sy => rfl); (case si => exact (sizeF' (encF_len _ _ _ _))); (case so => exact HZF.out); (case s1 => exact Fl.all_one encF_one)))
          have hgf := heap_alloc_new wr (.cells (encF (.slice P f.1.length p) f.2.1 f.2.2.1 (.slice MM f.2.2.2.length q)).toArray 93)
          have hba := below_alloc (Below.refl wr.heap.size wr) (.cells (encF (.slice P f.1.length p) f.2.1 f.2.2.1 (.slice MM f.2.2.2.length q)).toArray 93)
          replace HX := Aside0.mk (blk_below HX.out hba)
          replace HR := Aside0.mk (blk_below HR.out hba)
          replace HB := Aside0.mk (below_step HB.out hba)
          clear hba HY
          generalize wr.alloc (.cells (encF (.slice P f.1.length p) f.2.1 f.2.2.1 (.slice MM f.2.2.2.length q)).toArray 93) = wf at *
          generalize wr.heap.size = gf at *
          have HFF := Aside0.mk hgf
          clear hgf
          refine PrintLast.start_ (n := 5) (S := fun w' => Below wf.heap.size wf w') (ds := []) #[false, false, false, false, false] (by kernel_rfl) rfl rfl (below_drew1 (Below.refl _ _)) (fun hHeld => ?_)
          generalize wf.drew = W0 at *
          refine PrintLast.take_ (i := 0) (N := some 30) (v := .agg (#[.string m.1, .int .i64 m.2.1, .slice (some ad) m.2.2.1.length cF, .slice AL m.2.2.2.1.length cL, .slice AI m.2.2.2.2.1.length cI, .slice AT m.2.2.2.2.2.length cT] : Array Value)) (a' := ?_) #[true, false, false, false, false] rfl rfl (by kernel_rfl) (fun _ _ _ h => h) (Or.inl ⟨by rfl, ?_⟩) hHeld ?_ ?_
          skip
          · intro w' s0
            exact Fl.exec_load (ty := 46) (x := .tmp 2) (ad := ⟨w.heap.size, 0, none⟩) (cs := (#[.string m.1, .int .i64 m.2.1, .slice (some ad) m.2.2.1.length cF, .slice AL m.2.2.2.1.length cL, .slice AI m.2.2.2.2.1.length cI, .slice AT m.2.2.2.2.2.length cT] : Array Value)) (by rfl) (by rfl) (Fl.run_load (cs := [.string m.1, .int .i64 m.2.1, .slice (some ad) m.2.2.1.length cF, .slice AL m.2.2.2.1.length cL, .slice AI m.2.2.2.2.1.length cI, .slice AT m.2.2.2.2.2.length cT]) (fun j u hj => cell_stay s0 (by rw [Go.WideShapes.add_plain, Go.Joins.cell_of_block HX.out, List.getElem?_toArray, Nat.zero_add]; exact hj)) Try.underlying46 rfl (by kernel_rfl))
          rotate_left
          · simp only [Act.put, List.setIfInBounds_toArray, List.set_cons_zero, List.set_cons_succ]
            rfl
          refine PrintLast.take_ (i := 2) (N := some 32) (v := .agg (encF (.slice P f.1.length p) f.2.1 f.2.2.1 (.slice MM f.2.2.2.length q)).toArray) (a' := ?_) #[true, false, true, false, false] rfl rfl (by kernel_rfl) (fun _ _ _ h => h) (Or.inl ⟨by rfl, ?_⟩) hHeld ?_ ?_
          skip
          · intro w' s0
            exact Fl.exec_load (ty := 93) (x := .tmp 9) (ad := ⟨gf, 0, none⟩) (cs := (encF (.slice P f.1.length p) f.2.1 f.2.2.1 (.slice MM f.2.2.2.length q)).toArray) (by rfl) (by rfl) (Fl.run_load (cs := encF (.slice P f.1.length p) f.2.1 f.2.2.1 (.slice MM f.2.2.2.length q)) (fun j u hj => cell_stay s0 (by rw [Go.WideShapes.add_plain, Go.Joins.cell_of_block HFF.out, List.getElem?_toArray, Nat.zero_add]; exact hj)) Try.underlying93 rfl (sizeF (encF_len _ _ _ _)))
          rotate_left
          · simp only [Act.put, List.setIfInBounds_toArray, List.set_cons_zero, List.set_cons_succ]
            rfl
          refine PrintLast.one_ (i := 1) (N := some 31) #[true, true, true, false, false] rfl rfl (by kernel_rfl) (by decide) (fun K hK => ?_)
          refine PrintLast.goes_ Try.func55 (by kernel_rfl) rfl #[.agg (#[.string m.1, .int .i64 m.2.1, .slice (some ad) m.2.2.1.length cF, .slice AL m.2.2.2.1.length cL, .slice AI m.2.2.2.2.1.length cI, .slice AT m.2.2.2.2.2.length cT] : Array Value)] (by rfl) rfl rfl (by simp only [List.map_toArray, List.map_cons, List.map_nil]; rfl) ?_
          refine (pieces_any m _ _ (KMeta.K_below (below_step HB.out hHeld) HK.out)).mono ?_
          rintro e W1 ⟨rfl, hpc, hst⟩
          have hst1 := below_step hHeld hst
          refine ⟨_, rfl, ?_⟩
          refine hK.out _ _ hst1 (fun hHeld => ?_)
          clear hK K
          refine PrintLast.norm_ (a' := ?_) ?_ ?_
          rotate_left
          · show Act.put _ (some 31) _ = _
            simp only [Act.put, List.setIfInBounds_toArray, List.set_cons_zero, List.set_cons_succ]
            rfl
          clear hst
          obtain ⟨gq, hgq⟩ : ∃ gp, gp = W0.heap.size := ⟨_, rfl⟩
          rw [← hgq] at hpc ⊢
          clear hgq
          refine PrintLast.one_ (i := 3) (N := some 33) #[true, true, true, true, false] rfl rfl (by kernel_rfl) (by decide) (fun K hK => ?_)
          refine PrintLast.call_ 83 #[.agg (encF (.slice P f.1.length p) f.2.1 f.2.2.1 (.slice MM f.2.2.2.length q)).toArray, .pointer (some ⟨gq, 0, none⟩)] (by rfl) rfl ?_ ?_
          · have he := PrintLast.enters_ (P := Try.prog) Try.func83 (by kernel_rfl) rfl #[.agg (encF (.slice P f.1.length p) f.2.1 f.2.2.1 (.slice MM f.2.2.2.length q)).toArray, .pointer (some ⟨gq, 0, none⟩)] W1
            unfold execOp
            simp [resolve, Deferred.ofValue, invoke, Act.eval, he]
          refine (pieces1_any f _ gq m.2.1 _ (KFile.K_below (below_step HB.out hHeld) HKF.out) hpc hpl).mono ?_
          rintro e W2 ⟨rfl, hst⟩
          have hst2 := below_step hHeld hst
          refine ⟨_, rfl, ?_⟩
          refine hK.out _ _ hst2 (fun hHeld => ?_)
          clear hK K
          refine PrintLast.norm_ (a' := ?_) ?_ ?_
          rotate_left
          · show Act.put _ (some 33) _ = _
            simp only [Act.put, List.setIfInBounds_toArray, List.set_cons_zero, List.set_cons_succ]
            rfl
          clear hst
          refine PrintLast.pure_ (i := 4) (N := some 10) (v := ?_) (a' := ?_) #[true, true, true, true, true] rfl rfl (by kernel_rfl) (fun _ _ _ h => h) (Or.inl ⟨by rfl, ?_⟩) ?_ ?_
          rotate_left
          · intro w'
            go_simp
            with_reducible rfl
          rotate_left
          · simp only [Act.put, List.setIfInBounds_toArray, List.set_cons_zero, List.set_cons_succ]
            rfl
          refine PrintLast.done_ (by kernel_rfl) ?_
          have HX2 := Aside0.mk (blk_below HX.out hHeld)
          have HR2 := Aside0.mk (blk_below HR.out hHeld)
          have HB2 := Aside0.mk (below_step HB.out hHeld)
          have HF2 := Aside0.mk (blk_below HFF.out hHeld)
          clear HX HR HB HFF hHeld hpc hst1 hst2
          have HR := HR2
          have HB := HB2
          have hx1 : W2.cell? ⟨w.heap.size, 1, none⟩ = some (.int .i64 m.2.1) := Go.Joins.cell_of_block HX2.out 1
          have hfl : W2.cell? ⟨gf, 1, none⟩ = some (.int .i64 f.2.1) := Go.Joins.cell_of_block HF2.out 1
          by_cases hn : nth < cP f.2.1 m.2.1
          · have bn : decide (nth < cP f.2.1 m.2.1) = true := decide_eq_true hn
            have hc := HC2.out
            rw [if_pos hn] at hc
            have e2 := E1.out
            rw [← hc] at e2
            have E2 := Lib.hid e2
            clear hc e2
            have hr6 := setRow_heap W2 (w.heap.size + 1) _ (#[.int .i64 k, .int .i64 nth, .int .i64 (wrap64 (nth * m.2.1)), .int .i64 (mn m.2.1 (wrap64 (f.2.1 - wrap64 (nth * m.2.1))))]) 53 (0, 0) HR.out
            have hb6 := below_setRowL HB.out (show w.heap.size ≤ w.heap.size + 1 by omega) (#[.int .i64 k, .int .i64 nth, .int .i64 (wrap64 (nth * m.2.1)), .int .i64 (mn m.2.1 (wrap64 (f.2.1 - wrap64 (nth * m.2.1))))])
            generalize cP f.2.1 m.2.1 = n at *
            go_wp2_with (first | ((with_reducible refine Fl.wpList_build_to rfl 53 _ rfl (#[.int .i64 k, .int .i64 nth, .int .i64 (wrap64 (nth * m.2.1)), .int .i64 (mn m.2.1 (wrap64 (f.2.1 - wrap64 (nth * m.2.1))))]) ?bf ?_); (case bf => kernel_rfl)) | ((with_reducible refine wpList_store_row rfl 53 (.tmp 4) (.tmp 51) rfl (w.heap.size + 1) (#[.int .i64 k, .int .i64 nth, .int .i64 (wrap64 (nth * m.2.1)), .int .i64 (mn m.2.1 (wrap64 (f.2.1 - wrap64 (nth * m.2.1))))]) ?sx ?sy 53 _ HR.out ?si rfl ?s1 ?_); (case sx => rfl); (case sy => rfl); (case si => kernel_rfl); (case s1 => exact four_one _ _ _ _)))
            all_goals (
              refine bodyPost_ret (results_ct rfl _ _ (w.heap.size + 1) 53 _ (0, 0) _ rfl hr6 Try.underlying53 rfl (by kernel_rfl)) rfl ?_
              exact ⟨by rw [E2.out]; rfl, hb6⟩)
          · have bn : decide (nth < cP f.2.1 m.2.1) = false := decide_eq_false hn
            have hc := HC2.out
            rw [if_neg hn] at hc
            have HC3 := Lib.hid hc
            clear hc
            go_wp2
            go_roundw
            case rel => exact ⟨k + 1, wrap64 (nth - cP f.2.1 m.2.1), by omega, by go_num, rfl, Lib.hid (by rw [← HC3.out]; push_cast; rfl), HX2, HR2, HB2⟩
            case measure => simp [intOf]; omega
        · have ek : k = m.2.2.1.length := by omega
          subst ek
          have hc := HC.out
          rw [List.drop_length] at hc
          rw [cwhere_nil] at hc
          have e2 := E1.out
          rw [← hc] at e2
          have E2 := Lib.hid e2
          clear hc e2
          have hr6 := setRow_heap wr (w.heap.size + 1) _ (#[.int .i64 0, .int .i64 0, .int .i64 0, .int .i64 0]) 53 (0, 0) HR.out
          have hb6 := below_setRowL HB.out (show w.heap.size ≤ w.heap.size + 1 by omega) (#[.int .i64 0, .int .i64 0, .int .i64 0, .int .i64 0])
          go_wp2_with (first | ((with_reducible refine Fl.wpList_build_to rfl 53 _ rfl (#[.int .i64 0, .int .i64 0, .int .i64 0, .int .i64 0]) ?bf ?_); (case bf => kernel_rfl)) | ((with_reducible refine wpList_store_row rfl 53 (.tmp 4) (.tmp 56) rfl (w.heap.size + 1) (#[.int .i64 0, .int .i64 0, .int .i64 0, .int .i64 0]) ?sx ?sy 53 _ HR.out ?si rfl ?s1 ?_); (case sx => rfl); (case sy => rfl); (case si => kernel_rfl); (case s1 => exact four_one _ _ _ _)))
          refine bodyPost_ret (results_ct rfl _ _ (w.heap.size + 1) 53 _ (0, 0) _ rfl hr6 Try.underlying53 rfl (by kernel_rfl)) rfl ?_
          exact ⟨by rw [E2.out]; rfl, hb6⟩
  · have e1 : WhereR m piece = (0, 0, 0, 0, cfault m) := by unfold WhereR; rw [if_neg hf]
    have E1 := Lib.hid e1
    clear e1
    have b1 : (cfault m == 0) = false := by simp [hf]
    have b2 : (cfault m != 0) = true := by simp [hf]
    have hr6 := setRow_heap wr (w.heap.size + 1) _ (#[.int .i64 0, .int .i64 0, .int .i64 0, .int .i64 0]) 53 (0, 0) HR.out
    have hb6 := below_setRowL HB.out (show w.heap.size ≤ w.heap.size + 1 by omega) (#[.int .i64 0, .int .i64 0, .int .i64 0, .int .i64 0])
    go_wp2_with (first | ((with_reducible refine Fl.wpList_build_to rfl 53 _ rfl (#[.int .i64 0, .int .i64 0, .int .i64 0, .int .i64 0]) ?bf ?_); (case bf => kernel_rfl)) | ((with_reducible refine wpList_store_row rfl 53 (.tmp 4) (.tmp 16) rfl (w.heap.size + 1) (#[.int .i64 0, .int .i64 0, .int .i64 0, .int .i64 0]) ?sx ?sy 53 _ HR.out ?si rfl ?s1 ?_); (case sx => rfl); (case sy => rfl); (case si => kernel_rfl); (case s1 => exact four_one _ _ _ _)))
    refine bodyPost_ret (results_ct rfl _ _ (w.heap.size + 1) 53 _ (0, 0) _ rfl hr6 Try.underlying53 rfl (by kernel_rfl)) rfl ?_
    exact ⟨by rw [E1.out]; rfl, hb6⟩
end Cr
end Go.Proofs.Ytjeeakhgjcbhaaa
set_option linter.unusedVariables false
set_option linter.unusedSimpArgs false
namespace Go.Proofs.Ytjeeakhgjcbhaaa
open Go.RowKit Go.Proofs.YtjeeakhgjcbhaaaW.PrintWords Go.Proofs.YtjeeakhgjcbhaaaW Go.Proofs.YtjeeakhgjcbhaaaW.PrintMore
namespace Cr
open Wd Vl Mt
/-- Where, as the reference tells it. -/
def refWhere (m : MetaD) (piece : Int) : Int × Int × Int × Int × Int := if cfault m = 0 then (if 0 ≤ piece ∧ piece < (pls m.2.1 m.2.2.1 0).length then (let p := (pls m.2.1 m.2.2.1 0).getD piece.toNat (0, 0, 0, 0); (p.1, p.2.1, p.2.2.1, p.2.2.2, 0)) else (0, 0, 0, 0, 91)) else (0, 0, 0, 0, cfault m)
set_option maxHeartbeats 4000000 in
set_option maxRecDepth 100000 in
theorem refWhere_any (m : MetaD) (cs : List Value) (piece : Int) (w : World) (hK : KMeta.K w m cs) (hG : GMeta m) :
    Calls Try.prog 24 #[.agg cs.toArray, .int .i64 piece] w fun e w' => e = .returned (.tuple #[.agg #[.int .i64 (refWhere m piece).1, .int .i64 (refWhere m piece).2.1, .int .i64 (refWhere m piece).2.2.1, .int .i64 (refWhere m piece).2.2.2.1], .int .i64 (refWhere m piece).2.2.2.2]) ∧ Below w.heap.size w w' := by
  obtain ⟨AF, cF, AL, cL, AI, cI, AT, cT, rfl, hF, _⟩ := meta_open hK
  have q1 : m.2.2.1.length * 88 ≤ 140737488351232 := hG.2.1.1
  have HF := Aside0.mk hF
  have HK := Aside0.mk hK
  have HB0 : Aside0 (Below w.heap.size w ((w.alloc (.cells #[.string m.1, .int .i64 m.2.1, .slice AF m.2.2.1.length cF, .slice AL m.2.2.2.1.length cL, .slice AI m.2.2.2.2.1.length cI, .slice AT m.2.2.2.2.2.length cT] 46)).alloc (.cells #[.int .i64 0, .int .i64 0, .int .i64 0, .int .i64 0] 53))) := ⟨below_alloc (below_alloc (Below.refl w.heap.size w) (.cells #[.string m.1, .int .i64 m.2.1, .slice AF m.2.2.1.length cF, .slice AL m.2.2.2.1.length cL, .slice AI m.2.2.2.2.1.length cI, .slice AT m.2.2.2.2.2.length cT] 46)) (.cells #[.int .i64 0, .int .i64 0, .int .i64 0, .int .i64 0] 53)⟩
  have HX0 : Aside0 (((w.alloc (.cells #[.string m.1, .int .i64 m.2.1, .slice AF m.2.2.1.length cF, .slice AL m.2.2.2.1.length cL, .slice AI m.2.2.2.2.1.length cI, .slice AT m.2.2.2.2.2.length cT] 46)).alloc (.cells #[.int .i64 0, .int .i64 0, .int .i64 0, .int .i64 0] 53)).heap[w.heap.size]? = some (.cells #[.string m.1, .int .i64 m.2.1, .slice AF m.2.2.1.length cF, .slice AL m.2.2.2.1.length cL, .slice AI m.2.2.2.2.1.length cI, .slice AT m.2.2.2.2.2.length cT] 46)) := ⟨blk_alloc (heap_alloc_new w _) _⟩
  have HR0 : Aside0 (((w.alloc (.cells #[.string m.1, .int .i64 m.2.1, .slice AF m.2.2.1.length cF, .slice AL m.2.2.2.1.length cL, .slice AI m.2.2.2.2.1.length cI, .slice AT m.2.2.2.2.2.length cT] 46)).alloc (.cells #[.int .i64 0, .int .i64 0, .int .i64 0, .int .i64 0] 53)).heap[w.heap.size + 1]? = some (.cells #[.int .i64 0, .int .i64 0, .int .i64 0, .int .i64 0] 53)) := ⟨by have := heap_alloc_new (w.alloc (.cells #[.string m.1, .int .i64 m.2.1, .slice AF m.2.2.1.length cF, .slice AL m.2.2.2.1.length cL, .slice AI m.2.2.2.2.1.length cI, .slice AT m.2.2.2.2.2.length cT] 46)) (.cells #[.int .i64 0, .int .i64 0, .int .i64 0, .int .i64 0] 53); rwa [World.size_alloc] at this⟩
  have HZ : Hid (∀ j u, ([.string m.1, .int .i64 m.2.1, .slice AF m.2.2.1.length cF, .slice AL m.2.2.2.1.length cL, .slice AI m.2.2.2.2.1.length cI, .slice AT m.2.2.2.2.2.length cT] : List Value)[j]? = some u → ((w.alloc (.cells #[.string m.1, .int .i64 m.2.1, .slice AF m.2.2.1.length cF, .slice AL m.2.2.2.1.length cL, .slice AI m.2.2.2.2.1.length cI, .slice AT m.2.2.2.2.2.length cT] 46)).alloc (.cells #[.int .i64 0, .int .i64 0, .int .i64 0, .int .i64 0] 53)).cell? ((⟨w.heap.size, 0, none⟩ : Addr).add j) = some u) := Lib.hid fun j u hj => by rw [Go.WideShapes.add_plain, Go.Joins.cell_of_block HX0.out, List.getElem?_toArray, Nat.zero_add]; exact hj
  have HG := Lib.hid hG
  have HFA := Lib.hid (refFault_any m _ _ (KMeta.K_below HB0.out hK) hG)
  clear hF hK hG
  go_enter Try.func24, Try.ntmps24
  go_wp2_with ((with_reducible refine Fl.wpList_load rfl 46 (.tmp 2) rfl (⟨w.heap.size, 0, none⟩) ?lx ([.string m.1, .int .i64 m.2.1, .slice AF m.2.2.1.length cF, .slice AL m.2.2.2.1.length cL, .slice AI m.2.2.2.2.1.length cI, .slice AT m.2.2.2.2.2.length cT]) _ ?lc Try.underlying46 rfl ?li ?_); (case lx => rfl); (case lc => exact HZ.out); (case li => exact (by kernel_rfl)))
  go_at_call 56
  refine HFA.out.mono ?_
  rintro e wr ⟨rfl, hb1⟩
  have HX := Aside0.mk (blk_below HX0.out hb1)
  have HR := Aside0.mk (blk_below HR0.out hb1)
  have HB := Aside0.mk (below_step HB0.out hb1)
  have HZ2 : Hid (∀ j u, ([.string m.1, .int .i64 m.2.1, .slice AF m.2.2.1.length cF, .slice AL m.2.2.2.1.length cL, .slice AI m.2.2.2.2.1.length cI, .slice AT m.2.2.2.2.2.length cT] : List Value)[j]? = some u → wr.cell? ((⟨w.heap.size, 0, none⟩ : Addr).add j) = some u) := Lib.hid fun j u hj => by rw [Go.WideShapes.add_plain, Go.Joins.cell_of_block HX.out, List.getElem?_toArray, Nat.zero_add]; exact hj
  clear hb1 HX0 HR0 HB0 HZ HFA
  by_cases hf : cfault m = 0
  · have HPL := Lib.hid (refPlaces_any m _ wr (KMeta.K_below HB.out HK.out) HG.out hf)
    have E0 : Hid (refWhere m piece = if 0 ≤ piece ∧ piece < (pls m.2.1 m.2.2.1 0).length then (let p := (pls m.2.1 m.2.2.1 0).getD piece.toNat (0, 0, 0, 0); (p.1, p.2.1, p.2.2.1, p.2.2.2, 0)) else (0, 0, 0, 0, 91)) := Lib.hid (by unfold refWhere; rw [if_pos hf])
    rw [hf]
    go_wp2_with ((with_reducible refine Fl.wpList_load rfl 46 (.tmp 2) rfl (⟨w.heap.size, 0, none⟩) ?lx ([.string m.1, .int .i64 m.2.1, .slice AF m.2.2.1.length cF, .slice AL m.2.2.2.1.length cL, .slice AI m.2.2.2.2.1.length cI, .slice AT m.2.2.2.2.2.length cT]) _ ?lc Try.underlying46 rfl ?li ?_); (case lx => rfl); (case lc => exact HZ2.out); (case li => exact (by kernel_rfl)))
    go_at_call 57
    refine HPL.out.mono ?_
    rintro e w2 ⟨A, c, rfl, hC, hb2⟩
    have HC := Aside0.mk hC
    replace HR := Aside0.mk (blk_below HR.out hb2)
    replace HB := Aside0.mk (below_step HB.out hb2)
    clear hC hb2 HPL HX HZ2 hf
    generalize pls m.2.1 m.2.2.1 0 = L at *
    by_cases h0 : piece < 0
    · have b0 : decide (piece < 0) = true := decide_eq_true h0
      have E1 := Lib.hid (E0.out.trans (if_neg (by omega)))
      have hr6 := setRow_heap w2 (w.heap.size + 1) _ (#[.int .i64 0, .int .i64 0, .int .i64 0, .int .i64 0]) 53 (0, 0) HR.out
      have hb6 := below_setRowL HB.out (show w.heap.size ≤ w.heap.size + 1 by omega) (#[.int .i64 0, .int .i64 0, .int .i64 0, .int .i64 0])
      go_wp2_with (first | ((with_reducible refine Fl.wpList_build_to rfl 53 _ rfl (#[.int .i64 0, .int .i64 0, .int .i64 0, .int .i64 0]) ?bf ?_); (case bf => kernel_rfl)) | ((with_reducible refine wpList_store_row rfl 53 (.tmp 4) (.tmp 24) rfl (w.heap.size + 1) (#[.int .i64 0, .int .i64 0, .int .i64 0, .int .i64 0]) ?sx ?sy 53 _ HR.out ?si rfl ?s1 ?_); (case sx => rfl); (case sy => rfl); (case si => kernel_rfl); (case s1 => exact four_one _ _ _ _)))
      refine bodyPost_ret (results_ct rfl _ _ (w.heap.size + 1) 53 _ (0, 0) _ rfl hr6 Try.underlying53 rfl (by kernel_rfl)) rfl ?_
      exact ⟨by rw [E1.out]; rfl, hb6⟩
    · have b0 : decide (piece < 0) = false := decide_eq_false h0
      by_cases h1 : piece ≥ L.length
      · have b1 : decide (piece ≥ (L.length : Int)) = true := decide_eq_true h1
        have E1 := Lib.hid (E0.out.trans (if_neg (by omega)))
        have hr6 := setRow_heap w2 (w.heap.size + 1) _ (#[.int .i64 0, .int .i64 0, .int .i64 0, .int .i64 0]) 53 (0, 0) HR.out
        have hb6 := below_setRowL HB.out (show w.heap.size ≤ w.heap.size + 1 by omega) (#[.int .i64 0, .int .i64 0, .int .i64 0, .int .i64 0])
        go_wp2_with (first | ((with_reducible refine Fl.wpList_build_to rfl 53 _ rfl (#[.int .i64 0, .int .i64 0, .int .i64 0, .int .i64 0]) ?bf ?_); (case bf => kernel_rfl)) | ((with_reducible refine wpList_store_row rfl 53 (.tmp 4) (.tmp 24) rfl (w.heap.size + 1) (#[.int .i64 0, .int .i64 0, .int .i64 0, .int .i64 0]) ?sx ?sy 53 _ HR.out ?si rfl ?s1 ?_); (case sx => rfl); (case sy => rfl); (case si => kernel_rfl); (case s1 => exact four_one _ _ _ _)))
        refine bodyPost_ret (results_ct rfl _ _ (w.heap.size + 1) 53 _ (0, 0) _ rfl hr6 Try.underlying53 rfl (by kernel_rfl)) rfl ?_
        exact ⟨by rw [E1.out]; rfl, hb6⟩
      · have b1 : decide (piece ≥ (L.length : Int)) = false := decide_eq_false h1
        obtain ⟨k, rfl⟩ : ∃ k : Nat, piece = k := ⟨piece.toNat, by omega⟩
        have hlt : k < L.length := by omega
        have hlt' : (k : Int) < L.length := by omega
        have e1 := E0.out.trans (if_pos (by omega))
        rw [Int.toNat_natCast] at e1
        obtain ⟨ad, e0, hc⟩ := Fl.at_flat (0, 0, 0, 0) HC.out k hlt
        subst e0
        have HY : Hid (∀ j u, (encPl (L.getD k (0, 0, 0, 0)))[j]? = some u → w2.cell? ((ad.add (k * 4)).add j) = some u) := Lib.hid fun j u hj => by rw [Go.Deep.add_add]; exact hc j u hj
        have E1 := Lib.hid e1
        clear e1 hc E0
        generalize L.getD k (0, 0, 0, 0) = p at *
        have hr6 := setRow_heap w2 (w.heap.size + 1) _ (encPl p).toArray 53 (0, 0) HR.out
        have hb6 := below_setRowL HB.out (show w.heap.size ≤ w.heap.size + 1 by omega) (encPl p).toArray
        go_wp2_with (first | ((with_reducible refine Fl.wpList_load rfl 53 (.tmp 27) rfl (ad.add (k * 4)) ?lx (encPl p) _ ?lc Try.underlying53 rfl ?li ?_); (case lx => rfl); (case lc => exact HY.out); (case li => exact (by kernel_rfl))) | ((with_reducible refine wpList_store_row rfl 53 (.tmp 4) (.tmp 28) rfl (w.heap.size + 1) (encPl p).toArray ?sx ?sy 53 _ HR.out ?si rfl ?s1 ?_); (case sx => rfl); (case sy => rfl); (case si => kernel_rfl); (case s1 => exact four_one _ _ _ _)))
        all_goals (
          refine bodyPost_ret (results_ct rfl _ _ (w.heap.size + 1) 53 _ (0, 0) _ rfl hr6 Try.underlying53 rfl (by kernel_rfl)) rfl ?_
          exact ⟨by rw [E1.out]; rfl, hb6⟩)
  · have e1 : refWhere m piece = (0, 0, 0, 0, cfault m) := by unfold refWhere; rw [if_neg hf]
    have E1 := Lib.hid e1
    clear e1
    have b1 : (cfault m == 0) = false := by simp [hf]
    have b2 : (cfault m != 0) = true := by simp [hf]
    have hr6 := setRow_heap wr (w.heap.size + 1) _ (#[.int .i64 0, .int .i64 0, .int .i64 0, .int .i64 0]) 53 (0, 0) HR.out
    have hb6 := below_setRowL HB.out (show w.heap.size ≤ w.heap.size + 1 by omega) (#[.int .i64 0, .int .i64 0, .int .i64 0, .int .i64 0])
    go_wp2_with (first | ((with_reducible refine Fl.wpList_build_to rfl 53 _ rfl (#[.int .i64 0, .int .i64 0, .int .i64 0, .int .i64 0]) ?bf ?_); (case bf => kernel_rfl)) | ((with_reducible refine wpList_store_row rfl 53 (.tmp 4) (.tmp 12) rfl (w.heap.size + 1) (#[.int .i64 0, .int .i64 0, .int .i64 0, .int .i64 0]) ?sx ?sy 53 _ HR.out ?si rfl ?s1 ?_); (case sx => rfl); (case sy => rfl); (case si => kernel_rfl); (case s1 => exact four_one _ _ _ _)))
    refine bodyPost_ret (results_ct rfl _ _ (w.heap.size + 1) 53 _ (0, 0) _ rfl hr6 Try.underlying53 rfl (by kernel_rfl)) rfl ?_
    exact ⟨by rw [E1.out]; rfl, hb6⟩
end Cr
end Go.Proofs.Ytjeeakhgjcbhaaa
set_option linter.unusedVariables false
set_option linter.unusedSimpArgs false
namespace Go.Proofs.Ytjeeakhgjcbhaaa
open Go.RowKit Go.Proofs.YtjeeakhgjcbhaaaW.PrintWords Go.Proofs.YtjeeakhgjcbhaaaW Go.Proofs.YtjeeakhgjcbhaaaW.PrintMore
namespace Cr
open Wd Vl Mt
theorem cnt_append (g : PlD → Bool) (a b : List PlD) : cnt g (a ++ b) = cnt g a + cnt g b := by unfold cnt; rw [List.filter_append, List.length_append]
theorem cnt_all {g : PlD → Bool} {l : List PlD} (h : ∀ p ∈ l, g p = true) : cnt g l = l.length := by unfold cnt; rw [List.filter_eq_self.2 h]
theorem cnt_none {g : PlD → Bool} {l : List PlD} (h : ∀ p ∈ l, g p = false) : cnt g l = 0 := by
  unfold cnt
  rw [List.filter_eq_nil_iff.2 (fun p hp => by rw [h p hp]; exact Bool.false_ne_true)]
  rfl
theorem fpl_fst {i pl len : Int} : ∀ p ∈ fpl i pl len, p.1 = i := fun p hp => by
  obtain ⟨n, _, rfl⟩ := List.mem_map.1 hp
  rfl
theorem pls_fst (pl : Int) : ∀ (l : List FileD) (i : Int), ∀ p ∈ pls pl l i, i ≤ p.1 ∧ p.1 < i + l.length
  | [], _, p, hp => by cases hp
  | f :: l, i, p, hp => by
    rcases List.mem_append.1 hp with hp | hp
    · rw [fpl_fst p hp, List.length_cons]; omega
    · have := pls_fst pl l (i + 1) p hp; rw [List.length_cons]; omega
theorem pls_split (pl : Int) : ∀ (l : List FileD) (i : Int) (k : Nat), k < l.length → pls pl l i = pls pl (l.take k) i ++ (fpl (i + k) pl (l.getD k f0).2.1 ++ pls pl (l.drop (k + 1)) (i + k + 1))
  | [], _, _, h => by simp at h
  | f :: l, i, 0, h => by simp [pls]
  | f :: l, i, k + 1, h => by
    have := pls_split pl l (i + 1) k (by simpa using h)
    simp only [List.take_succ_cons, List.drop_succ_cons, pls, List.getD_cons_succ]
    rw [this, List.append_assoc]
    have e1 : i + 1 + (k : Int) = i + ((k + 1 : Nat) : Int) := by omega
    rw [e1]
theorem LensOk.get {fs : List FileD} (h : LensOk fs) {k : Nat} (hk : k < fs.length) : 0 ≤ (fs.getD k f0).2.1 ∧ (fs.getD k f0).2.1 ≤ 1099511627776 := by
  rw [List.getD_eq_getElem?_getD, List.getElem?_eq_getElem hk]
  exact h _ (List.getElem_mem hk)
theorem LensOk.take {fs : List FileD} (h : LensOk fs) (k : Nat) : LensOk (fs.take k) := fun f hf => h f (List.mem_of_mem_take hf)
theorem cRow_ref (m : MetaD) (file : Int) : cRow m file = refRow m file := by
  unfold cRow refRow
  by_cases hf : cfault m = 0
  · rw [if_pos hf, if_pos hf]
    obtain ⟨hpl, _, hn, hL, _, _⟩ := cfault_ok hf
    by_cases h1 : 0 ≤ file ∧ file < m.2.2.1.length
    · rw [if_pos h1, if_pos h1]
      obtain ⟨k, rfl⟩ : ∃ k : Nat, file = k := ⟨file.toNat, by omega⟩
      have hk : k < m.2.2.1.length := by omega
      rw [Int.toNat_natCast, pls_split m.2.1 m.2.2.1 0 k hk]
      have g := hL.get hk
      have a1 := csum_pls hpl.1 (m.2.2.1.take k) 0 0 (hL.take k) (by rw [List.length_take]; omega)
      rw [Nat.zero_add] at a1
      have a1' : csum m.2.1 (m.2.2.1.take k) 0 = _ := a1.1
      have a2 := (cP_cN g.1 g.2 hpl.1).1
      have q1 : ∀ p ∈ pls m.2.1 (m.2.2.1.take k) 0, p.1 < k := fun p hp => by
        have := (pls_fst _ _ _ p hp).2
        rw [List.length_take] at this
        omega
      have q2 : ∀ p ∈ fpl (0 + k) m.2.1 (m.2.2.1.getD k f0).2.1, p.1 = k := fun p hp => by rw [fpl_fst p hp]; omega
      have q3 : ∀ p ∈ pls m.2.1 (m.2.2.1.drop (k + 1)) (0 + k + 1), (k : Int) < p.1 := fun p hp => by have := (pls_fst _ _ _ p hp).1; omega
      rw [a1', a2, cnt_append, cnt_append, cnt_append, cnt_append,
        cnt_all (g := fun q => decide (q.1 < (k : Int))) (fun p hp => decide_eq_true (q1 p hp)),
        cnt_none (g := fun q => decide (q.1 < (k : Int))) (fun p hp => decide_eq_false (by have := q2 p hp; omega)),
        cnt_none (g := fun q => decide (q.1 < (k : Int))) (fun p hp => decide_eq_false (by have := q3 p hp; omega)),
        cnt_none (g := fun q => q.1 == (k : Int)) (fun p hp => beq_eq_false_iff_ne.2 (by have := q1 p hp; omega)),
        cnt_all (g := fun q => q.1 == (k : Int)) (fun p hp => beq_iff_eq.2 (q2 p hp)),
        cnt_none (g := fun q => q.1 == (k : Int)) (fun p hp => beq_eq_false_iff_ne.2 (by have := q3 p hp; omega)), fpl_len]
      simp
    · rw [if_neg h1, if_neg h1]
  · rw [if_neg hf, if_neg hf]
theorem mkP_eq {pl len : Int} {n : Nat} (i : Int) (hp : 64 ≤ pl ∧ pl ≤ 16777216) (hl : 0 ≤ len ∧ len ≤ 1099511627776) (hn : n < cN len pl) :
    (i, (n : Int), wrap64 ((n : Int) * pl), mn pl (wrap64 (len - wrap64 ((n : Int) * pl)))) = mkP i n pl len ∧ 0 ≤ (n : Int) * pl ∧ (n : Int) * pl < len := by
  have h1 := (lt_cN (len := len) (pl := pl) (by omega) n).1 hn
  have h2 : 0 ≤ (n : Int) * pl := Int.mul_nonneg (by omega) (by omega)
  refine ⟨?_, h2, h1⟩
  unfold mkP mn
  generalize (n : Int) * pl = x at *
  have e1 : wrap64 x = x := by unfold wrap64; omega
  have e2 : wrap64 (len - x) = len - x := by unfold wrap64; omega
  rw [e1, e2]
  by_cases hx : len - x > pl
  · rw [if_pos hx, if_neg (by omega)]
  · rw [if_neg hx]
    by_cases hy : len - x < pl
    · rw [if_pos hy]
    · rw [if_neg hy, show len - x = pl by omega]
theorem fpl_get {i pl len : Int} {n : Nat} (h : n < cN len pl) : (fpl i pl len)[n]? = some (mkP i n pl len) := by
  unfold fpl
  rw [List.getElem?_map, List.getElem?_range h]
  rfl
theorem cwhere_pls {pl : Int} (hp : 64 ≤ pl ∧ pl ≤ 16777216) : ∀ (l : List FileD) (i : Int) (n : Nat), LensOk l → (n : Int) ≤ 9223372036854775807 → cwhere pl l i n = (pls pl l i)[n]?
  | [], i, n, _, _ => by rw [cwhere_nil]; simp [pls]
  | f :: l, i, n, hl, hn => by
    have hf := hl f List.mem_cons_self
    obtain ⟨h1, h2⟩ := cP_cN hf.1 hf.2 hp.1
    rw [cwhere_cons, h1, show pls pl (f :: l) i = fpl i pl f.2.1 ++ pls pl l (i + 1) from rfl]
    by_cases hlt : n < cN f.2.1 pl
    · rw [if_pos (by omega), List.getElem?_append_left (by rw [fpl_len]; exact hlt), fpl_get hlt, (mkP_eq i hp hf hlt).1]
    · have e : wrap64 ((n : Int) - (cN f.2.1 pl : Nat)) = ((n - cN f.2.1 pl : Nat) : Int) := by unfold wrap64; omega
      rw [if_neg (by omega), List.getElem?_append_right (by rw [fpl_len]; omega), fpl_len, e]
      exact cwhere_pls hp l (i + 1) (n - cN f.2.1 pl) (fun g hg => hl g (List.mem_cons_of_mem _ hg)) (by omega)
theorem where_ref (m : MetaD) (piece : Int) (hx : piece ≤ 9223372036854775807) : WhereR m piece = refWhere m piece := by
  unfold WhereR refWhere
  by_cases hf : cfault m = 0
  · rw [if_pos hf, if_pos hf]
    obtain ⟨hpl, _, hn, hL, _, _⟩ := cfault_ok hf
    by_cases h0 : piece < 0
    · rw [if_pos h0, if_neg (by omega)]
    · rw [if_neg h0]
      obtain ⟨k, rfl⟩ : ∃ k : Nat, piece = k := ⟨piece.toNat, by omega⟩
      rw [cwhere_pls hpl _ _ _ hL hx, Int.toNat_natCast]
      by_cases h1 : k < (pls m.2.1 m.2.2.1 0).length
      · rw [if_pos (by omega), List.getElem?_eq_getElem h1, List.getD_eq_getElem?_getD, List.getElem?_eq_getElem h1]
        rfl
      · rw [if_neg (by omega), List.getElem?_eq_none (by omega)]
  · rw [if_neg hf, if_neg hf]
theorem findAt_skip (file off : Int) : ∀ (a b : List PlD) (i : Int), (∀ p ∈ a, ¬ (p.1 = file ∧ p.2.2.1 ≤ off ∧ off < wrap64 (p.2.2.1 + p.2.2.2))) → findAt file off (a ++ b) i = findAt file off b (i + a.length)
  | [], b, i, _ => by simp
  | p :: a, b, i, h => by
    rw [List.cons_append, findAt_cons, if_neg (h p List.mem_cons_self), findAt_skip file off a b (i + 1) (fun q hq => h q (List.mem_cons_of_mem _ hq)), List.length_cons]
    congr 1
    omega
theorem fpl_split {i pl len : Int} {n : Nat} (h : n < cN len pl) : ∃ a b, fpl i pl len = a ++ (mkP i n pl len :: b) ∧ a.length = n ∧ ∀ p ∈ a, ∃ j, j < n ∧ p = mkP i j pl len := by
  refine ⟨(fpl i pl len).take n, (fpl i pl len).drop (n + 1), ?_, by rw [List.length_take, fpl_len]; omega, fun p hp => ?_⟩
  · have h' : n < (fpl i pl len).length := by rw [fpl_len]; exact h
    have e := fpl_get (i := i) h
    rw [List.getElem?_eq_getElem h'] at e
    injection e with e
    rw [← e, ← List.drop_eq_getElem_cons h', List.take_append_drop]
  · obtain ⟨j, hj, rfl⟩ := List.getElem_of_mem hp
    rw [List.length_take, fpl_len] at hj
    refine ⟨j, by omega, ?_⟩
    have e := fpl_get (i := i) (n := j) (len := len) (pl := pl) (by omega)
    rw [List.getElem_take]
    rw [List.getElem?_eq_getElem (by rw [fpl_len]; omega)] at e
    injection e
theorem at_mul {off pl : Int} {n : Nat} (hp : 0 < pl) (h0 : 0 ≤ off) (hn : (n : Int) = off / pl) : (n : Int) * pl ≤ off ∧ off < (n : Int) * pl + pl := by
  have e := Int.mul_ediv_add_emod off pl
  have m0 := Int.emod_nonneg off (show pl ≠ 0 by omega)
  have m1 := Int.emod_lt_of_pos off hp
  rw [hn, Int.mul_comm]
  omega
theorem w64 {x : Int} (h0 : -9223372036854775808 ≤ x) (h1 : x ≤ 9223372036854775807) : wrap64 x = x := by unfold wrap64; omega
/-- A place's own bytes. -/
theorem hit_len {x pl len : Int} (h0 : 0 ≤ x) (h1 : x < len) (hl : len ≤ 1099511627776) (hp : 64 ≤ pl ∧ pl ≤ 16777216) : wrap64 (x + (if len - x > pl then pl else len - x)) = (if len - x > pl then x + pl else len) := by
  split
  · exact w64 (by omega) (by omega)
  · rw [w64 (by omega) (by omega)]; omega
theorem cAt_ref (m : MetaD) (file off : Int) : cAt m file off = refAt m file off := by
  unfold cAt refAt
  have hR := cRow_ref m file
  rw [hR]
  by_cases hf : cfault m = 0
  · rw [if_pos hf]
    obtain ⟨hpl, _, hn, hL, _, hlen⟩ := cfault_ok hf
    by_cases h1 : 0 ≤ file ∧ file < m.2.2.1.length
    · have e2 : (refRow m file).2.2 = 0 := by unfold refRow; rw [if_pos hf, if_pos h1]
      rw [if_pos e2, if_pos h1, ← hR]
      have e3 : (cRow m file).1 = csum m.2.1 (m.2.2.1.take file.toNat) 0 := by unfold cRow; rw [if_pos hf, if_pos h1]
      rw [e3]
      obtain ⟨k, rfl⟩ : ∃ k : Nat, file = k := ⟨file.toNat, by omega⟩
      have hk : k < m.2.2.1.length := by omega
      have hsp := pls_split m.2.1 m.2.2.1 0 k hk
      have hlen2 := hlen
      rw [hsp] at hlen2
      rw [Int.toNat_natCast, hsp]
      have g := hL.get hk
      have a1 := csum_pls hpl.1 (m.2.2.1.take k) 0 0 (hL.take k) (by rw [List.length_take]; omega)
      rw [Nat.zero_add] at a1
      have a1' : csum m.2.1 (m.2.2.1.take k) 0 = _ := a1.1
      rw [a1']
      have q1 : ∀ p ∈ pls m.2.1 (m.2.2.1.take k) 0, p.1 < k := fun p hp => by
        have := (pls_fst _ _ _ p hp).2
        rw [List.length_take] at this
        omega
      have q3 : ∀ p ∈ pls m.2.1 (m.2.2.1.drop (k + 1)) (0 + k + 1), (k : Int) < p.1 := fun p hp => by have := (pls_fst _ _ _ p hp).1; omega
      rw [findAt_skip _ _ _ _ _ (fun p hp h => by have := q1 p hp; omega)]
      generalize (m.2.2.1.getD k f0).2.1 = len at *
      generalize pls m.2.1 (m.2.2.1.take k) 0 = A at *
      generalize pls m.2.1 (m.2.2.1.drop (k + 1)) (0 + k + 1) = B at *
      by_cases h2 : 0 ≤ off ∧ off < len
      · rw [if_pos h2]
        have hd : 0 ≤ off / m.2.1 := Int.ediv_nonneg h2.1 (by omega)
        obtain ⟨n, hn'⟩ : ∃ n : Nat, (n : Int) = off / m.2.1 := ⟨(off / m.2.1).toNat, by omega⟩
        obtain ⟨b1, b2⟩ := at_mul (by omega) h2.1 hn'
        have hlt : n < cN len m.2.1 := (lt_cN (by omega) n).2 (by omega)
        obtain ⟨a, b, e4, e5, e6⟩ := fpl_split (i := 0 + (k : Int)) hlt
        have hlen3 : A.length + (n + 1) ≤ 65536 := by
          rw [List.length_append, List.length_append, fpl_len] at hlen2
          omega
        rw [e4, List.append_assoc, findAt_skip _ _ _ _ _ (fun p hp h => by
          obtain ⟨j, hj, rfl⟩ := e6 p hp
          obtain ⟨_, h3, h4⟩ := h
          unfold mkP at h3 h4
          simp only at h3 h4
          have hjc : j < cN len m.2.1 := by omega
          obtain ⟨_, h5, h6⟩ := mkP_eq (0 + (k : Int)) hpl g hjc
          have h7 : ((j : Int) + 1) * m.2.1 ≤ (n : Int) * m.2.1 := Int.mul_le_mul_of_nonneg_right (by omega) (by omega)
          rw [Int.add_mul, Int.one_mul] at h7
          generalize (j : Int) * m.2.1 = x at *
          generalize (n : Int) * m.2.1 = y at *
          rw [hit_len h5 h6 g.2 hpl] at h4
          split at h4 <;> omega), List.cons_append, findAt_cons]
        have hmk := mkP_eq (0 + (k : Int)) hpl g hlt
        have hT : Int.tdiv off m.2.1 = (n : Int) := by rw [Int.tdiv_eq_ediv_of_nonneg h2.1, hn']
        have hM : Int.tmod off m.2.1 = off - (n : Int) * m.2.1 := by
          rw [Int.tmod_eq_emod_of_nonneg h2.1]
          have e := Int.mul_ediv_add_emod off m.2.1
          rw [← hn', Int.mul_comm] at e
          omega
        rw [hT, hM, e5]
        unfold mkP
        simp only
        obtain ⟨_, h5, h6⟩ := hmk
        generalize (n : Int) * m.2.1 = x at *
        rw [hit_len h5 h6 g.2 hpl, if_pos ⟨by omega, b1, by split <;> omega⟩, w64 (x := (n : Int)) (by omega) (by omega), w64 (x := (A.length : Int) + n) (by omega) (by omega), w64 (x := off - x) (by omega) (by omega)]
        simp
      · rw [if_neg h2, findAt_skip _ _ _ _ _ (fun p hp h => by
          obtain ⟨j, hj, rfl⟩ := List.mem_map.1 hp
          rw [List.mem_range] at hj
          obtain ⟨_, h3, h4⟩ := h
          unfold mkP at h3 h4
          simp only at h3 h4
          obtain ⟨_, h5, h6⟩ := mkP_eq (0 + (k : Int)) hpl g hj
          generalize (j : Int) * m.2.1 = x at *
          rw [hit_len h5 h6 g.2 hpl] at h4
          split at h4 <;> omega)]
        have := findAt_skip (k : Int) off B [] (0 + (A.length : Int) + ((fpl (0 + (k : Int)) m.2.1 len).length : Int)) (fun p hp h => by have := q3 p hp; omega)
        rw [List.append_nil] at this
        rw [this, findAt_nil]
    · have e2 : refRow m file = (0, 0, 90) := by unfold refRow; rw [if_pos hf, if_neg h1]
      rw [e2, if_neg (by simp), if_neg h1]
  · have e2 : refRow m file = (0, 0, cfault m) := by unfold refRow; rw [if_neg hf]
    rw [e2, if_neg hf, if_neg hf]
end Cr
end Go.Proofs.Ytjeeakhgjcbhaaa
set_option linter.unusedVariables false
set_option linter.unusedSimpArgs false
namespace Go.Proofs.Ytjeeakhgjcbhaaa
open Go.RowKit Go.Proofs.YtjeeakhgjcbhaaaW.PrintWords Go.Proofs.YtjeeakhgjcbhaaaW Go.Proofs.YtjeeakhgjcbhaaaW.PrintMore
namespace Cr
open Wd Vl Mt
set_option maxHeartbeats 4000000 in
set_option maxRecDepth 100000 in
theorem refPieces_any (m : MetaD) (cs : List Value) (w : World) (hK : KMeta.K w m cs) (hG : GMeta m) :
    Calls Try.prog 20 #[.agg cs.toArray] w fun e w' => e = .returned (.tuple #[.int .i64 (cPieces m), .int .i64 (cfault m)]) ∧ Below w.heap.size w w' := by
  obtain ⟨AF, cF, AL, cL, AI, cI, AT, cT, rfl, hF, _⟩ := meta_open hK
  have q1 : m.2.2.1.length * 88 ≤ 140737488351232 := hG.2.1.1
  have HF := Aside0.mk hF
  have HK := Aside0.mk hK
  have HB0 : Aside0 (Below w.heap.size w (w.alloc (.cells #[.string m.1, .int .i64 m.2.1, .slice AF m.2.2.1.length cF, .slice AL m.2.2.2.1.length cL, .slice AI m.2.2.2.2.1.length cI, .slice AT m.2.2.2.2.2.length cT] 46))) := ⟨below_alloc (Below.refl w.heap.size w) (.cells #[.string m.1, .int .i64 m.2.1, .slice AF m.2.2.1.length cF, .slice AL m.2.2.2.1.length cL, .slice AI m.2.2.2.2.1.length cI, .slice AT m.2.2.2.2.2.length cT] 46)⟩
  have HX0 : Aside0 ((w.alloc (.cells #[.string m.1, .int .i64 m.2.1, .slice AF m.2.2.1.length cF, .slice AL m.2.2.2.1.length cL, .slice AI m.2.2.2.2.1.length cI, .slice AT m.2.2.2.2.2.length cT] 46)).heap[w.heap.size]? = some (.cells #[.string m.1, .int .i64 m.2.1, .slice AF m.2.2.1.length cF, .slice AL m.2.2.2.1.length cL, .slice AI m.2.2.2.2.1.length cI, .slice AT m.2.2.2.2.2.length cT] 46)) := ⟨heap_alloc_new w _⟩
  have HZ : Hid (∀ j u, ([.string m.1, .int .i64 m.2.1, .slice AF m.2.2.1.length cF, .slice AL m.2.2.2.1.length cL, .slice AI m.2.2.2.2.1.length cI, .slice AT m.2.2.2.2.2.length cT] : List Value)[j]? = some u → (w.alloc (.cells #[.string m.1, .int .i64 m.2.1, .slice AF m.2.2.1.length cF, .slice AL m.2.2.2.1.length cL, .slice AI m.2.2.2.2.1.length cI, .slice AT m.2.2.2.2.2.length cT] 46)).cell? ((⟨w.heap.size, 0, none⟩ : Addr).add j) = some u) := Lib.hid fun j u hj => by rw [Go.WideShapes.add_plain, Go.Joins.cell_of_block HX0.out, List.getElem?_toArray, Nat.zero_add]; exact hj
  have HG := Lib.hid hG
  have HFA := Lib.hid (refFault_any m _ _ (KMeta.K_below HB0.out hK) hG)
  clear hF hK hG
  go_enter Try.func20, Try.ntmps20
  go_wp2_with ((with_reducible refine Fl.wpList_load rfl 46 (.tmp 1) rfl (⟨w.heap.size, 0, none⟩) ?lx ([.string m.1, .int .i64 m.2.1, .slice AF m.2.2.1.length cF, .slice AL m.2.2.2.1.length cL, .slice AI m.2.2.2.2.1.length cI, .slice AT m.2.2.2.2.2.length cT]) _ ?lc Try.underlying46 rfl ?li ?_); (case lx => rfl); (case lc => exact HZ.out); (case li => exact (by kernel_rfl)))
  go_at_call 56
  refine HFA.out.mono ?_
  rintro e wr ⟨rfl, hb1⟩
  have HX := Aside0.mk (blk_below HX0.out hb1)
  have HB := Aside0.mk (below_step HB0.out hb1)
  have HZ2 : Hid (∀ j u, ([.string m.1, .int .i64 m.2.1, .slice AF m.2.2.1.length cF, .slice AL m.2.2.2.1.length cL, .slice AI m.2.2.2.2.1.length cI, .slice AT m.2.2.2.2.2.length cT] : List Value)[j]? = some u → wr.cell? ((⟨w.heap.size, 0, none⟩ : Addr).add j) = some u) := Lib.hid fun j u hj => by rw [Go.WideShapes.add_plain, Go.Joins.cell_of_block HX.out, List.getElem?_toArray, Nat.zero_add]; exact hj
  clear hb1 HX0 HB0 HZ HFA
  have hx2 : wr.cell? ⟨w.heap.size, 2, none⟩ = some (.slice AF m.2.2.1.length cF) := Go.Joins.cell_of_block HX.out 2
  by_cases hf : cfault m = 0
  · have e1 : cPieces m = ((pls m.2.1 m.2.2.1 0).length : Int) := by unfold cPieces; rw [if_pos hf]; exact (cfault_ok hf).2.2.2.2.1
    have E1 := Lib.hid e1
    have HPL := Lib.hid (refPlaces_any m _ wr (KMeta.K_below HB.out HK.out) HG.out hf)
    have HF0 := Lib.hid hf
    clear e1
    rw [hf]
    go_wp2_with ((with_reducible refine Fl.wpList_load rfl 46 (.tmp 1) rfl (⟨w.heap.size, 0, none⟩) ?lx ([.string m.1, .int .i64 m.2.1, .slice AF m.2.2.1.length cF, .slice AL m.2.2.2.1.length cL, .slice AI m.2.2.2.2.1.length cI, .slice AT m.2.2.2.2.2.length cT]) _ ?lc Try.underlying46 rfl ?li ?_); (case lx => rfl); (case lc => exact HZ2.out); (case li => exact (by kernel_rfl)))
    go_at_call 57
    refine HPL.out.mono ?_
    rintro e w2 ⟨A, c, rfl, _, hb2⟩
    clear hf
    go_wp2
    go_ret2
    exact ⟨by rw [E1.out, HF0.out]; rfl, below_step HB.out hb2⟩
  · have e1 : cPieces m = 0 := by unfold cPieces; rw [if_neg hf]
    have b1 : (cfault m == 0) = false := by simp [hf]
    have b2 : (cfault m != 0) = true := by simp [hf]
    go_wp2
    go_ret2
    exact ⟨by rw [e1]; rfl, HB.out⟩
end Cr
end Go.Proofs.Ytjeeakhgjcbhaaa
set_option linter.unusedVariables false
set_option linter.unusedSimpArgs false
namespace Go.Proofs.Ytjeeakhgjcbhaaa
open Go.RowKit Go.Proofs.YtjeeakhgjcbhaaaW.PrintWords Go.Proofs.YtjeeakhgjcbhaaaW Go.Proofs.YtjeeakhgjcbhaaaW.PrintMore
namespace Cr
open Wd Vl Mt
theorem one4 (a b c d : Int) : ∀ u ∈ ([.int .i64 a, .int .i64 b, .int .i64 c, .int .i64 d] : List Value), u.oneCell' = true := by
  intro u hu
  simp only [List.mem_cons, List.not_mem_nil, or_false] at hu
  rcases hu with rfl | rfl | rfl | rfl <;> rfl
set_option maxHeartbeats 4000000 in
set_option maxRecDepth 100000 in
theorem maps_any (m : MetaD) (cs : List Value) (piece file off : Int) (w : World) (hK : KMeta.K w m cs) (hG : GMeta m) (hpc : piece ≤ 9223372036854775807) :
    Calls Try.prog 5 #[.agg cs.toArray, .int .i64 piece, .int .i64 file, .int .i64 off] w fun e w' => e = .returned (.bool true) ∧ Below w.heap.size w w' := by
  have HX := Aside0.mk (Bx.first w hK)
  have HFM := Lib.hid (fun W (h : KMeta.K W m cs) => Far.farMeta_any m cs W h)
  have HTM := Lib.hid (fun W (h : KMeta.K W m cs) => twinMeta_any m cs W h hG)
  have HG := Lib.hid hG
  clear hK hG
  go_enter Try.func5, Try.ntmps5
  go_wp2_with ((with_reducible refine Fl.wpList_load rfl 46 (.tmp 4) rfl (⟨w.heap.size, 0, none⟩) ?lx (cs) _ ?lc Try.underlying46 rfl ?li ?_); (case lx => rfl); (case lc => exact HX.out.load); (case li => exact HX.out.info))
  go_at_call 17
  refine (HFM.out _ HX.out.k).mono ?_
  rintro e w1 ⟨⟨b, rfl⟩, hb1⟩
  replace HX := Aside0.mk (HX.out.below hb1)
  clear hb1 HFM
  cases b with
  | true =>
    go_wp2
    go_ret
    exact ⟨rfl, HX.out.bel⟩
  | false =>
    go_wp2_with ((with_reducible refine Fl.wpList_load rfl 46 (.tmp 4) rfl (⟨w.heap.size, 0, none⟩) ?lx (cs) _ ?lc Try.underlying46 rfl ?li ?_); (case lx => rfl); (case lc => exact HX.out.load); (case li => exact HX.out.info))
    go_at_call 18
    refine (HTM.out _ HX.out.k).mono ?_
    rintro e w2 ⟨ds, rfl, hM, hb2⟩
    have HY0 : Hid (∀ W, W = w2.alloc (.cells ds.toArray 46) → Bx w m w2.heap.size ds W) := Lib.hid (by rintro _ rfl; exact Bx.twin (below_step HX.out.bel hb2) hb2.size hb2 hM)
    have HX0 : Hid (∀ W, W = w2.alloc (.cells ds.toArray 46) → Bx w m w.heap.size cs W) := Lib.hid (by rintro _ rfl; exact (HX.out.below hb2).below (below_alloc (Below.refl _ _) (.cells ds.toArray 46)))
    have hyk := HY0.out _ rfl
    have HS := Lib.hid (sizeM hyk.sz)
    have HI := Lib.hid hyk.info'
    have HO := Lib.hid (KMeta.K_one hyk.k)
    clear hyk hb2 hM HTM HX
    go_upto_region 4 with (((with_reducible refine Fl.wpList_store_fresh rfl 46 (.tmp 9) (.tmp 33) rfl 46 _ (ds).toArray ?sx ?sy ?si ?so ?s1 ?_); (case sx => rfl); (case sy => rfl); (case si => exact HI.out); (case so => exact HS.out); (case s1 => exact Fl.all_one HO.out)))
    obtain ⟨W3, h3⟩ : ∃ W, W = w2.alloc (.cells ds.toArray 46) := ⟨_, rfl⟩
    have HX := Aside0.mk (HX0.out _ h3)
    have HY := Aside0.mk (HY0.out _ h3)
    rw [← h3]
    clear h3 HX0 HY0 HS HI HO
    generalize w2.heap.size = g at *
    have HC := Lib.hid (fun W (h : KMeta.K W m cs) => Pieces_any m cs W h HG.out)
    have HR := Lib.hid (fun W (h : KMeta.K W m ds) => refPieces_any m ds W h HG.out)
    generalize cPieces m = n1 at *
    generalize cfault m = e1 at *
    go_wp2_with ((with_reducible refine Fl.wpList_load rfl 46 (.tmp 4) rfl (⟨w.heap.size, 0, none⟩) ?lx (cs) _ ?lc Try.underlying46 rfl ?li ?_); (case lx => rfl); (case lc => exact HX.out.load); (case li => exact HX.out.info))
    go_at_call 19
    refine (HC.out _ HX.out.k).mono ?_
    rintro e w4 ⟨rfl, hb4⟩
    replace HX := Aside0.mk (HX.out.below hb4)
    replace HY := Aside0.mk (HY.out.below hb4)
    clear hb4
    go_wp2_with ((with_reducible refine Fl.wpList_load rfl 46 (.tmp 9) rfl (⟨g, 0, none⟩) ?lx (ds) _ ?lc Try.underlying46 rfl ?li ?_); (case lx => rfl); (case lc => exact HY.out.load); (case li => exact HY.out.info))
    go_at_call 20
    refine (HR.out _ HY.out.k).mono ?_
    rintro e w5 ⟨rfl, hb5⟩
    replace HX := Aside0.mk (HX.out.below hb5)
    replace HY := Aside0.mk (HY.out.below hb5)
    clear hb5
    clear HC HR
    have HC := Lib.hid (fun W (h : KMeta.K W m cs) => Row_any m cs file W h HG.out)
    have HR := Lib.hid (fun W (h : KMeta.K W m ds) => refRow_any m ds file W h HG.out)
    rw [← cRow_ref m file] at HR
    generalize (cRow m file).1 = r1 at *
    generalize (cRow m file).2.1 = r2 at *
    generalize (cRow m file).2.2 = r3 at *
    go_wp2_with ((with_reducible refine Fl.wpList_load rfl 46 (.tmp 4) rfl (⟨w.heap.size, 0, none⟩) ?lx (cs) _ ?lc Try.underlying46 rfl ?li ?_); (case lx => rfl); (case lc => exact HX.out.load); (case li => exact HX.out.info))
    go_at_call 21
    refine (HC.out _ HX.out.k).mono ?_
    rintro e w6 ⟨rfl, hb6⟩
    replace HX := Aside0.mk (HX.out.below hb6)
    replace HY := Aside0.mk (HY.out.below hb6)
    clear hb6
    go_wp2_with ((with_reducible refine Fl.wpList_load rfl 46 (.tmp 9) rfl (⟨g, 0, none⟩) ?lx (ds) _ ?lc Try.underlying46 rfl ?li ?_); (case lx => rfl); (case lc => exact HY.out.load); (case li => exact HY.out.info))
    go_at_call 22
    refine (HR.out _ HY.out.k).mono ?_
    rintro e w7 ⟨rfl, hb7⟩
    replace HX := Aside0.mk (HX.out.below hb7)
    replace HY := Aside0.mk (HY.out.below hb7)
    clear hb7
    clear HC HR
    have HC := Lib.hid (fun W (h : KMeta.K W m cs) => Where_any m cs piece W h HG.out)
    have HR := Lib.hid (fun W (h : KMeta.K W m ds) => refWhere_any m ds piece W h HG.out)
    rw [← where_ref m piece hpc] at HR
    generalize (WhereR m piece).1 = p1 at *
    generalize (WhereR m piece).2.1 = p2 at *
    generalize (WhereR m piece).2.2.1 = p3 at *
    generalize (WhereR m piece).2.2.2.1 = p4 at *
    generalize (WhereR m piece).2.2.2.2 = p5 at *
    go_wp2_with ((with_reducible refine Fl.wpList_load rfl 46 (.tmp 4) rfl (⟨w.heap.size, 0, none⟩) ?lx (cs) _ ?lc Try.underlying46 rfl ?li ?_); (case lx => rfl); (case lc => exact HX.out.load); (case li => exact HX.out.info))
    go_at_call 23
    refine (HC.out _ HX.out.k).mono ?_
    rintro e w8 ⟨rfl, hb8⟩
    replace HX := Aside0.mk (HX.out.below hb8)
    replace HY := Aside0.mk (HY.out.below hb8)
    clear hb8
    have HS := Lib.hid (Bx.alloc_ HX.out (.cells ([.int .i64 p1, .int .i64 p2, .int .i64 p3, .int .i64 p4] : List Value).toArray 53))
    have HT := Lib.hid (Bx.alloc_ HY.out (.cells ([.int .i64 p1, .int .i64 p2, .int .i64 p3, .int .i64 p4] : List Value).toArray 53))
    have HI := Lib.hid (show (Try.prog.info? 53).map (·.size) = some ([.int .i64 p1, .int .i64 p2, .int .i64 p3, .int .i64 p4] : List Value).toArray.size by kernel_rfl)
    have HO := Lib.hid (one4 p1 p2 p3 p4)
    go_upto_region 13 with (((with_reducible refine Fl.wpList_store_fresh rfl 53 (.tmp 20) (.tmp 83) rfl 53 _ ([.int .i64 p1, .int .i64 p2, .int .i64 p3, .int .i64 p4]).toArray ?sx ?sy ?si ?so ?s1 ?_); (case sx => rfl); (case sy => rfl); (case si => exact HI.out); (case so => exact rfl); (case s1 => exact Fl.all_one HO.out)))
    obtain ⟨W8, h3⟩ : ∃ W, W = w8.alloc (.cells ([.int .i64 p1, .int .i64 p2, .int .i64 p3, .int .i64 p4] : List Value).toArray 53) := ⟨_, rfl⟩
    replace HX := Aside0.mk (HS.out _ h3)
    replace HY := Aside0.mk (HT.out _ h3)
    have HP8 : Aside0 (W8.heap[w8.heap.size]? = some (.cells ([.int .i64 p1, .int .i64 p2, .int .i64 p3, .int .i64 p4] : List Value).toArray 53)) := ⟨by rw [h3]; exact heap_alloc_new _ _⟩
    rw [← h3]
    clear h3 HS HT HI HO
    generalize w8.heap.size = q8 at *
    go_wp2_with ((with_reducible refine Fl.wpList_load rfl 46 (.tmp 9) rfl (⟨g, 0, none⟩) ?lx (ds) _ ?lc Try.underlying46 rfl ?li ?_); (case lx => rfl); (case lc => exact HY.out.load); (case li => exact HY.out.info))
    go_at_call 24
    refine (HR.out _ HY.out.k).mono ?_
    rintro e w9 ⟨rfl, hb9⟩
    replace HP8 := Aside0.mk (blk_below HP8.out hb9)
    replace HX := Aside0.mk (HX.out.below hb9)
    replace HY := Aside0.mk (HY.out.below hb9)
    clear hb9
    have HQ8 := Lib.hid (fun (o : Obj) (V : World) (h : V = w9.alloc o) => (h ▸ blk_alloc HP8.out o : V.heap[q8]? = some (.cells ([.int .i64 p1, .int .i64 p2, .int .i64 p3, .int .i64 p4] : List Value).toArray 53)))
    have HS := Lib.hid (Bx.alloc_ HX.out (.cells ([.int .i64 p1, .int .i64 p2, .int .i64 p3, .int .i64 p4] : List Value).toArray 53))
    have HT := Lib.hid (Bx.alloc_ HY.out (.cells ([.int .i64 p1, .int .i64 p2, .int .i64 p3, .int .i64 p4] : List Value).toArray 53))
    have HI := Lib.hid (show (Try.prog.info? 53).map (·.size) = some ([.int .i64 p1, .int .i64 p2, .int .i64 p3, .int .i64 p4] : List Value).toArray.size by kernel_rfl)
    have HO := Lib.hid (one4 p1 p2 p3 p4)
    go_upto_region 14 with (((with_reducible refine Fl.wpList_store_fresh rfl 53 (.tmp 22) (.tmp 89) rfl 53 _ ([.int .i64 p1, .int .i64 p2, .int .i64 p3, .int .i64 p4]).toArray ?sx ?sy ?si ?so ?s1 ?_); (case sx => rfl); (case sy => rfl); (case si => exact HI.out); (case so => exact rfl); (case s1 => exact Fl.all_one HO.out)))
    obtain ⟨W9, h3⟩ : ∃ W, W = w9.alloc (.cells ([.int .i64 p1, .int .i64 p2, .int .i64 p3, .int .i64 p4] : List Value).toArray 53) := ⟨_, rfl⟩
    replace HX := Aside0.mk (HS.out _ h3)
    replace HY := Aside0.mk (HT.out _ h3)
    have HP9 : Aside0 (W9.heap[w9.heap.size]? = some (.cells ([.int .i64 p1, .int .i64 p2, .int .i64 p3, .int .i64 p4] : List Value).toArray 53)) := ⟨by rw [h3]; exact heap_alloc_new _ _⟩
    rw [← h3]
    have h3' := h3
    clear h3 HS HT HI HO
    generalize w9.heap.size = q9 at *
    replace HP8 := Aside0.mk (HQ8.out _ _ h3')
    clear HC HR HQ8 h3'
    have c80 : W9.cell? ⟨q8, 0, none⟩ = some (.int .i64 p1) := Go.Joins.cell_of_block HP8.out 0
    have c81 : W9.cell? ⟨q8, 1, none⟩ = some (.int .i64 p2) := Go.Joins.cell_of_block HP8.out 1
    have c82 : W9.cell? ⟨q8, 2, none⟩ = some (.int .i64 p3) := Go.Joins.cell_of_block HP8.out 2
    have c83 : W9.cell? ⟨q8, 3, none⟩ = some (.int .i64 p4) := Go.Joins.cell_of_block HP8.out 3
    have c90 : W9.cell? ⟨q9, 0, none⟩ = some (.int .i64 p1) := Go.Joins.cell_of_block HP9.out 0
    have c91 : W9.cell? ⟨q9, 1, none⟩ = some (.int .i64 p2) := Go.Joins.cell_of_block HP9.out 1
    have c92 : W9.cell? ⟨q9, 2, none⟩ = some (.int .i64 p3) := Go.Joins.cell_of_block HP9.out 2
    have c93 : W9.cell? ⟨q9, 3, none⟩ = some (.int .i64 p4) := Go.Joins.cell_of_block HP9.out 3
    have HC := Lib.hid (fun W (h : KMeta.K W m cs) => At_any m cs file off W h HG.out)
    have HR := Lib.hid (fun W (h : KMeta.K W m ds) => refAt_any m ds file off W h HG.out)
    rw [← cAt_ref m file off] at HR
    generalize (cAt m file off).1 = a1 at *
    generalize (cAt m file off).2.1 = a2 at *
    generalize (cAt m file off).2.2 = a3 at *
    go_wp2_with ((with_reducible refine Fl.wpList_load rfl 46 (.tmp 4) rfl (⟨w.heap.size, 0, none⟩) ?lx (cs) _ ?lc Try.underlying46 rfl ?li ?_); (case lx => rfl); (case lc => exact HX.out.load); (case li => exact HX.out.info))
    go_at_call 25
    refine (HC.out _ HX.out.k).mono ?_
    rintro e w10 ⟨rfl, hb10⟩
    replace HX := Aside0.mk (HX.out.below hb10)
    replace HY := Aside0.mk (HY.out.below hb10)
    clear hb10
    go_wp2_with ((with_reducible refine Fl.wpList_load rfl 46 (.tmp 9) rfl (⟨g, 0, none⟩) ?lx (ds) _ ?lc Try.underlying46 rfl ?li ?_); (case lx => rfl); (case lc => exact HY.out.load); (case li => exact HY.out.info))
    go_at_call 26
    refine (HR.out _ HY.out.k).mono ?_
    rintro e w11 ⟨rfl, hb11⟩
    replace HX := Aside0.mk (HX.out.below hb11)
    replace HY := Aside0.mk (HY.out.below hb11)
    clear hb11
    clear HC HR HP8 HP9 c80 c81 c82 c83 c90 c91 c92 c93
    have HSY := Lib.hid (fun W (h : KMeta.K W m cs) (h' : KMeta.K W m ds) => stays_any m cs ds W h h' HG.out)
    go_wp2_with (first | ((with_reducible refine Fl.wpList_load_w 46 (.tmp 4) rfl ?lg (⟨w.heap.size, 0, none⟩) ?lx (cs) _ ?lc Try.underlying46 rfl ?li ?_); (case lg => rfl); (case lx => rfl); (case lc => exact HX.out.load); (case li => exact HX.out.info)) | ((with_reducible refine Fl.wpList_load_w 46 (.tmp 9) rfl ?lg (⟨g, 0, none⟩) ?lx (ds) _ ?lc Try.underlying46 rfl ?li ?_); (case lg => rfl); (case lx => rfl); (case lc => exact HY.out.load); (case li => exact HY.out.info)))
    go_at_call 27
    refine (HSY.out _ HX.out.k HY.out.k).mono ?_
    rintro e w12 ⟨rfl, hb12⟩
    go_wp2
    go_ret
    exact ⟨rfl, below_step HX.out.bel hb12⟩
end Cr
end Go.Proofs.Ytjeeakhgjcbhaaa
set_option linter.unusedVariables false
set_option linter.unusedSimpArgs false
namespace Go.Proofs.Ytjeeakhgjcbhaaa.LawCreateMaps
open Go.ChangeShapes Go.WideShapes Go.ChangeAt Go.RowKit Go.Proofs.YtjeeakhgjcbhaaaW.PrintWords
theorem own : ownKnob Try.prog.godebug = none := by kernel_rfl
theorem laidOut : laidOutB Try.prog = true := by kernel_rfl
open Go.Proofs.Ytjeeakhgjcbhaaa.Mt Go.Proofs.Ytjeeakhgjcbhaaa.Cr
set_option maxRecDepth 100000 in
theorem lifted (os : Os) (started : os.Started) (H : Type) (enc : TypeId × Value → H) :
    ReturnsInHanded {} Try.checked os 5 .any (Rows.createMapsSpec.pre6 enc Try.prog Try.f5 Rows.createMapsRow.domain false) (Rows.createMapsSpec.post enc Try.prog Try.f5 false true false false) := by
  refine Rw.lifted_law (tb := 4) own started (by kernel_rfl) Try.func5
    (ChangeSpec.witness6 (enc := enc) (C := Try.checked) false ⟨#[], #[.agg #[.string ⟨#[]⟩, .int .i64 0, .slice none 0 0, .slice none 0 0, .slice none 0 0, .slice none 0 0], .int .i64 0, .int .i64 0, .int .i64 0], []⟩ 8 (by kernel_rfl) (by kernel_rfl) (by kernel_rfl) (by kernel_rfl)) laidOut (by kernel_rfl) rfl Try.underlying4 rfl ?_ ?_
  · intro ds hds
    rw [Try.params5] at hds
    match ds, hds with
    | [d0, d1, d2, d3], _ => rfl
  · intro W args ds p base hval hA hz
    rw [Try.params5] at hA hz hval
    obtain ⟨v0, vs0, ds0, p0, x0, hargs, hK0, hG0, hA1, hz1⟩ := Rw.open_arg opens_meta hA hz
    obtain ⟨v1, vs1, ds1, p1, x1, rfl, hK1, hG1, hA2, hz2⟩ := Rw.open_arg (Rw.opens_int Try.underlying3) hA1 hz1
    obtain ⟨v2, vs2, ds2, p2, x2, rfl, hK2, hG2, hA3, hz3⟩ := Rw.open_arg (Rw.opens_int Try.underlying3) hA2 hz2
    obtain ⟨v3, vs3, ds3, p3, x3, rfl, hK3, hG3, hA4, hz4⟩ := Rw.open_arg (Rw.opens_int Try.underlying3) hA3 hz3
    obtain rfl := Rw.open_end (args := args) hA4
    obtain rfl : args = #[v0, v1, v2, v3] := by cases args; simp_all
    obtain ⟨cs0, rfl, _⟩ := okWide_struct Try.underlying46 (hval 0 46 _ rfl rfl)
    obtain ⟨c0, rfl⟩ : ∃ c : List Value, cs0 = c.toArray := ⟨cs0.toList, by simp⟩
    replace hK0 : KMeta.K W x0 c0 := hK0
    obtain ⟨y1, rfl, _⟩ := okWide_int Try.underlying3 (hval 1 3 _ rfl rfl)
    have e1 : [Value.int .i64 y1] = [Value.int .i64 x1] := hK1
    injection e1 with e1
    injection e1 with _ e1
    subst e1
    obtain ⟨y2, rfl, _⟩ := okWide_int Try.underlying3 (hval 2 3 _ rfl rfl)
    have e2 : [Value.int .i64 y2] = [Value.int .i64 x2] := hK2
    injection e2 with e2
    injection e2 with _ e2
    subst e2
    obtain ⟨y3, rfl, _⟩ := okWide_int Try.underlying3 (hval 3 3 _ rfl rfl)
    have e3 : [Value.int .i64 y3] = [Value.int .i64 x3] := hK3
    injection e3 with e3
    injection e3 with _ e3
    subst e3
    have hpc : y1 ≤ 9223372036854775807 := by simp [Lit.wf] at hG1; omega
    exact maps_any _ _ _ _ _ W hK0 hG0 hpc
theorem over : Rows.createMapsRow.holds Try.pinned (OpenSpec.ofChange Rows.createMapsSpec) :=
  OpenClaim.holds_of_wide 5 Try.f5 rfl rfl rfl rfl rfl rfl rfl ⟨rfl, rfl, rfl, rfl, rfl⟩ rfl rfl rfl rfl rfl (by kernel_rfl) Try.func5 (by kernel_rfl)
    (of_decide_eq_true (by kernel_rfl)) (by unfold Func.isWrapper; first | (rw [if_pos (by decide +kernel)]; kernel_rfl) | (rw [if_neg (by decide +kernel)]; exact ⟨rfl, rfl⟩))
    (fun os started H enc _ => lifted os started H enc)
/-- The statement. -/
theorem proved : Rows.CreateMapsSaid := over
#print axioms proved
end Go.Proofs.Ytjeeakhgjcbhaaa.LawCreateMaps
