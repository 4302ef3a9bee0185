/- torrentlaw4.BitsetChecks: for every number and every list of bytes Check answers as the document does. No condition beyond the form's own. -/
import Derived.Test.YtdnkbpfgbpnofaaRow
import Derived.Test.YtdnkbpfgbpnofaaWd
import Derived.Test.YtdnkbpfgbpnofaaBc
import Derived.Lib.SliceRun
import Derived.Laws.MakeOwn
set_option linter.unusedVariables false
set_option linter.unusedSimpArgs false
namespace Go.Proofs.Ytdnkbpfgbpnofaa.LawBitsetChecks
open Go.ChangeShapes Go.WideShapes Go.ChangeAt Go.RowKit Go.Proofs.YtdnkbpfgbpnofaaW.PrintWords Go.Proofs.YtdnkbpfgbpnofaaW.PrintLast Go.Proofs.YtdnkbpfgbpnofaaW.PrintMore
theorem own : ownKnob Try.prog.godebug = none := by kernel_rfl
theorem laidOut : laidOutB Try.prog = true := by kernel_rfl
open Go.Proofs.Ytdnkbpfgbpnofaa.Wd Go.Proofs.Ytdnkbpfgbpnofaa.PBitsetChecks
theorem infoU8 : (Try.prog.info? 5).map (fun i => (i.zero, i.size, i.bytes)) = some (some (.int .u8 0), 1, 1) := by kernel_rfl
def MadeBytes (w : World) (l : List Int) (e : Ending) (w' : World) : Prop := ∃ v, e = .returned v ∧ Kd.R (Kd.int .u8) 5 w' w.heap.size (fun _ => True) v l ∧ Below w.heap.size w w'
theorem made_zero (w : World) (n : Nat) (hn : n ≤ 140737488351232) :
    (Instr.makeSlice 25 (.int .i64 0) (.int .i64 (n : Int))).run Try.prog w = .ok (.slice (some ⟨w.heap.size, 0, none⟩) 0 n) (w.alloc (.cells (madeCells #[.int .u8 0] n) 5)) := by
  obtain ⟨i, hi, hz⟩ := Option.map_eq_some_iff.1 infoU8
  simp only [Prod.mk.injEq] at hz
  have := run_make w 25 5 i (.int .u8 0) Try.underlying25 hi hz.1 .i64 .i64 0 n (by omega) (by omega) (by rw [hz.2.2]; omega) (by omega)
  rw [this, hz.2.1]
  simp
  rfl
theorem R_zero (w : World) (n : Nat) (hn : n ≤ 140737488351232) : Kd.R (Kd.int .u8) 5 (w.alloc (.cells (madeCells #[.int .u8 0] n) 5)) w.heap.size (fun _ => True) (.slice (some ⟨w.heap.size, 0, none⟩) 0 n) [] := by
  refine ⟨fun _ _ => trivial, [], ⟨by simp, .inr ⟨w.heap.size, n, madeCells #[.int .u8 0] n, rfl, Nat.le_refl _, ?_, Nat.zero_le _, by unfold maxLen; omega, ?_, by simp⟩⟩, Reps.none _ _⟩
  · show (w.heap.push _)[w.heap.size]? = _
    simp
  · show (madeCells #[Value.int .u8 0] n).size = n * 1
    simp [madeCells]
theorem at_byte {w : World} {A : Option Addr} {n : Nat} {l : List Int} (h : Kd.C (Kd.int .u8) w A n l) (k : Nat) (hk : k < n) : ∃ ad, A = some ad ∧ w.cell? (ad.add k) = some (.int .u8 (rd l (k : Int))) := by
  obtain ⟨ad, c, e, _, hK, hc0⟩ := Kd.C_get h (0 : Int) k (by omega) (by omega)
  have hc : ∀ j u, c[j]? = some u → w.cell? (ad.add (k * 1 + j)) = some u := hc0
  have hK : c = [.int .u8 (l.getD k 0)] := hK
  subst hK
  refine ⟨ad, e, ?_⟩
  have hq := hc 0 _ rfl
  rw [Nat.mul_one, Nat.add_zero] at hq
  rw [hq]
  simp [rd]
set_option maxRecDepth 100000 in
theorem copied_any (A0 : Option Addr) (c0 : Nat) (l : List Int) (w : World) (hr : Kd.C (Kd.int .u8) w A0 l.length l) (hc : l.length ≤ c0) (hl : l.length ≤ 140737488351232) :
    Calls Try.prog 48 #[.slice A0 l.length c0] w (MadeBytes w l) := by
  have HR := Aside0.mk hr
  cases A0 with
  | none =>
    have h0 : l = [] := by
      cases l with
      | nil => rfl
      | cons x r => obtain ⟨ad, e, _⟩ := hr.2.2 (by simp); cases e
    clear hr hc HR
    subst h0
    have heq : ∀ W, (binOp .eql 25 (.slice none 0 c0) (.slice none 0 0)).run Try.prog W = .ok (.bool true) W := fun W => Lib.run_eql_slice_nil W 25 5 none 0 c0 0 0 Try.underlying25
    go_enter Try.func48, Try.ntmps48
    go_wp2
    go_ret
    exact ⟨_, rfl, Kd.R_nil _ _ _ _ _, Below.refl _ _⟩
  | some ad =>
    clear hr hc
    have heq : ∀ W, (binOp .eql 25 (.slice (some ad) l.length c0) (.slice none 0 0)).run Try.prog W = .ok (.bool false) W := fun W => Lib.run_eql_slice_nil W 25 5 (some ad) l.length c0 0 0 Try.underlying25
    have hmk : ∀ W, (Instr.makeSlice 25 (.int .i64 0) (.int .i64 (l.length : Int))).run Try.prog W = .ok (.slice (some ⟨W.heap.size, 0, none⟩) 0 l.length) (W.alloc (.cells (madeCells #[.int .u8 0] l.length) 5)) := fun W => made_zero W _ hl
    go_enter Try.func48, Try.ntmps48
    go_wp2
    clear hmk heq
    go_loopw [3, 4] (fun q i wr => ∃ k : Nat, k ≤ l.length ∧ i = .int .i64 k ∧ Aside0 (Kd.R (Kd.int .u8) 5 wr w.heap.size (fun _ => True) q (l.take k)) ∧ Aside0 (Below w.heap.size w wr)) (fun _ i _ => l.length - (intOf i).toNat)
    case atStart => exact ⟨0, by omega, rfl, ⟨R_zero w _ hl⟩, ⟨below_alloc (Below.refl _ _) _⟩⟩
    case round =>
      obtain ⟨k, hk, rfl, HO, HB⟩ := hrel
      by_cases hlt : k < l.length
      · obtain ⟨ad1, e0, hx⟩ := at_byte HR.out k hlt
        cases e0
        replace hx := cell_stay HB.out hx
        have hz : (l.take k).length < 140737488351232 := by rw [List.length_take]; omega
        have HT := Lib.hid (rd_step l k hlt)
        go_wp2_with (at_builtin; refine Kd.R_append (Kd.int .u8) (w0 := w) w.heap.size rfl (.tmp 16) (.tmp 21) 25 5 (.int .u8 0) 1 rfl Try.underlying25 infoU8 rfl (by decide) (by omega) u3 (l.take k) (rd l (k : Int)) [.int .u8 (rd l (k : Int))] (fun _ => True) (fun _ => False) rfl rfl ?aP (fun _ h => h.elim) ?aF ?aO ?aB ?aS ?aL ?_; (case aP => exact rfl); (case aB => exact HB.out); (case aF => exact (fun _ _ => trivial)); (case aO => exact HO.out); (case aS => exact below_size HB.out); (case aL => omega); intro q1 wq ho hb hg hat; rw [← HT.out] at ho; have HO1 := Aside0.mk ho; have HB1 := Aside0.mk hb; clear ho hb hg hat HB HO)
        go_roundw
        case rel => exact ⟨k + 1, by omega, by go_num, HO1, HB1⟩
        case measure => simp [intOf]; omega
      · go_wp2
        go_ret
        obtain rfl : k = l.length := by omega
        rw [List.take_length] at HO
        exact ⟨_, rfl, HO.out, HB.out⟩
set_option maxRecDepth 100000 in
theorem law_any (n : Int) (A0 : Option Addr) (c0 : Nat) (l : List Int) (w : World) (hr0 : Kd.C (Kd.int .u8) w A0 l.length l) (hc0 : l.length ≤ c0) (hl0 : l.length ≤ 140737488351232) (hs0 : ∀ x ∈ l, 0 ≤ x ∧ x ≤ 255) :
    Calls Try.prog 6 #[.int .i64 n, .slice A0 l.length c0] w fun e w' => e = .returned (.bool true) ∧ Below w.heap.size w w' := by
  have HC0 := Lib.hid (copied_any A0 c0 l w hr0 hc0 hl0)
  unfold MadeBytes at HC0
  obtain ⟨r, h1, h2⟩ := check_eq n l hs0
  obtain ⟨k, h3⟩ := same_refl l hl0
  have HR := Aside0.mk hr0
  have H1 : Hid (∀ A c (w : World), Kd.C (Kd.int .u8) w A l.length l → l.length ≤ c → Calls Try.prog 49 #[.int .i64 n, .slice A l.length c] w fun e w' => e = .returned (.int .i64 r) ∧ Drawn0 w w') := Lib.hid fun A c w g1 g2 => bitset_Check.calls 1 n A c l r w g1 g2 h1
  have H2 : Hid (∀ (w : World), Kd.C (Kd.int .u8) w A0 l.length l → Calls Try.prog 50 #[.int .i64 n, .slice A0 l.length c0] w fun e w' => e = .returned (.int .i64 r) ∧ Drawn0 w w') := Lib.hid fun w g1 => torrentref4_Check.calls 10 n A0 c0 l r w g1 hc0 h2
  have H3 : Hid (∀ A c (w : World), Kd.C (Kd.int .u8) w A l.length l → l.length ≤ c → Kd.C (Kd.int .u8) w A0 l.length l → Calls Try.prog 51 #[.slice A l.length c, .slice A0 l.length c0] w fun e w' => e = .returned (.bool true) ∧ Drawn0 w w') := Lib.hid fun A c w g1 g2 g3 => torrentlaw4_sameBytes.calls k A c l A0 c0 l true w g1 g2 g3 hc0 h3
  have hrr : (r == r) = true := by simp
  clear h1 h2 h3 hr0 hc0 hl0 hs0
  go_enter Try.func6, Try.ntmps6
  go_wp2_with fail
  go_at_call 48
  refine HC0.out.mono ?_
  rintro e w1 ⟨q, rfl, hq, hb1⟩
  obtain ⟨B, d, rfl, hd, hq2⟩ := Kd.R_reads hq
  have HQ := Aside0.mk hq2
  have HD := Lib.hid hd
  clear hq hq2 hd
  go_wp2_with fail
  go_at_call 49
  refine (H1.out _ _ _ HQ.out HD.out).mono ?_
  rintro e w2 ⟨rfl, ⟨n2, rfl⟩⟩
  go_wp2_with fail
  go_at_call 50
  refine (H2.out _ (Kd.C_drewN (Kd.C_below HR.out hb1) _)).mono ?_
  rintro e w3 ⟨rfl, ⟨n3, rfl⟩⟩
  go_wp2_with fail
  go_at_call 51
  refine (H3.out _ _ _ (Kd.C_drewN HQ.out _) HD.out (Kd.C_drewN (Kd.C_below HR.out hb1) _)).mono ?_
  rintro e w4 ⟨rfl, ⟨n4, rfl⟩⟩
  go_wp2
  go_ret
  exact ⟨rfl, below_drewN hb1 _⟩
set_option maxRecDepth 100000 in
theorem lifted (os : Os) (started : os.Started) (H : Type) (enc : TypeId × Value → H) :
    ReturnsInHanded {} Try.checked os 6 .any (Rows.bitsetChecksSpec.pre6 enc Try.prog Try.f6 Rows.bitsetChecksRow.domain false) (Rows.bitsetChecksSpec.post enc Try.prog Try.f6 false true false false) := by
  refine Rw.lifted_law (tb := 4) own started (by kernel_rfl) Try.func6
    (ChangeSpec.witness6 (enc := enc) (C := Try.checked) false ⟨#[], #[.int .i64 0, .slice none 0 0], []⟩ 8 (by kernel_rfl) (by kernel_rfl) (by kernel_rfl) (by kernel_rfl)) laidOut (by kernel_rfl) rfl Try.underlying4 rfl ?_ ?_
  · intro ds hds
    rw [Try.params6] at hds
    match ds, hds with
    | [d0, d1], _ => rfl
  · intro W args ds p base hval hA hz
    rw [Try.params6] at hA hz hval
    obtain ⟨v0, vs0, ds0, p0, n, hargs, hK0, hG0, hA1, hz1⟩ := Rw.open_arg (Rw.opens_int Try.underlying3) hA hz
    obtain ⟨v1, vs1, ds1, p1, l, rfl, ⟨A1, c1, hK1, hc1, hr1⟩, ⟨hl1, hs1⟩, hA2, hz2⟩ := Rw.open_arg (Rw.opens_slice Try.underlying25 (by kernel_rfl) (Rw.opens_int Try.underlying5)) hA1 hz1
    obtain rfl := Rw.open_end (args := args) hA2
    obtain rfl : args = #[v0, v1] := by cases args; simp_all
    obtain ⟨n0, rfl, _⟩ := okWide_int Try.underlying3 (hval 0 3 _ rfl rfl)
    obtain rfl : n0 = n := by have h : [Value.int .i64 n0] = [Value.int .i64 n] := hK0; injection h with h; injection h
    obtain ⟨a1, n1, d1, rfl⟩ := okWide_slice Try.underlying25 (hval 1 25 _ rfl rfl)
    have e1 : [Value.slice a1 n1 d1] = [Value.slice A1 l.length c1] := hK1
    injection e1 with e1
    injection e1 with e1a e1b e1c
    subst e1a e1b e1c
    have hb1 : Try.prog.bytesOf 5 = 1 := by kernel_rfl
    have hq1 : l.length ≤ 140737488351232 := by rw [hb1] at hl1; unfold reachBytes at hl1; omega
    have hs2 : ∀ x ∈ l, 0 ≤ x ∧ x ≤ 255 := fun x hx => by
      have := hs1 x hx
      have g : (0 : Int) ≤ x ∧ x ≤ 255 := by simpa [Lit.wf, show IntKind.u8.min = 0 from by decide, show IntKind.u8.max = 255 from by decide] using this
      exact g
    exact law_any _ _ _ _ W hr1 hc1 hq1 hs2
theorem over : Rows.bitsetChecksRow.holds Try.pinned (OpenSpec.ofChange Rows.bitsetChecksSpec) :=
  OpenClaim.holds_of_wide 6 Try.f6 rfl rfl rfl rfl rfl rfl rfl ⟨rfl, rfl, rfl, rfl, rfl⟩ rfl rfl rfl rfl rfl (by kernel_rfl) Try.func6 (by kernel_rfl)
    (of_decide_eq_true (by kernel_rfl)) (by unfold Func.isWrapper; first | (rw [if_pos (by decide +kernel)]; kernel_rfl) | (rw [if_neg (by decide +kernel)]; exact ⟨rfl, rfl⟩))
    (fun os started H enc _ => lifted os started H enc)
/-- The statement. -/
theorem proved : Rows.BitsetChecksSaid := over
#print axioms proved
end Go.Proofs.Ytdnkbpfgbpnofaa.LawBitsetChecks
