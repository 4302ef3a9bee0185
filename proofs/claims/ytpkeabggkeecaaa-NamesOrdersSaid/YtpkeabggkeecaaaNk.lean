/- Layer 5 (names), the walk of Clash: package names answers what its reference answers. Conditions: the lists are read at their addresses, lengths and strings within the form's reach. -/
import Derived.Test.YtpkeabggkeecaaaNj
set_option linter.unusedVariables false
set_option linter.unusedSimpArgs false
namespace Go.Proofs.Ytpkeabggkeecaaa
open Go.RowKit Go.Proofs.YtpkeabggkeecaaaW.PrintWords
namespace Nm
open Wd Mp
theorem FS_out {Q : List Pth} {q : Pth} (h : ∀ x ∈ Q, ¬ q <+: x) : FS Q q = Q.length := by
  obtain ⟨i, hi, hle, h1, _⟩ := FS_spec Q q
  rcases Nat.lt_or_ge i Q.length with hlt | hge
  · obtain ⟨x, hx, hq⟩ := h1 hlt
    exact absurd hq (h x (List.mem_of_getElem? hx))
  · rw [hi]; omega
theorem EN_out {Q : List Pth} {q : Pth} (h : ∀ x ∈ Q, x ≠ q) : EN Q q = -1 := by
  unfold EN
  rw [if_neg (fun hlt => by
    have := List.findIdx_getElem (w := hlt)
    exact h _ (List.getElem_mem hlt) (by simpa using this))]
theorem FS_snoc {Q : List Pth} {p q : Pth} (h : (∃ x ∈ Q, q <+: x) ∨ q <+: p) : FS (Q ++ [p]) q = FS Q q := by
  unfold FS
  rw [List.findIdx_append]
  by_cases hlt : Q.findIdx (fun x => q.isPrefixOf x) < Q.length
  · rw [if_pos hlt]
  · rw [if_neg hlt]
    have hq : q <+: p := by
      rcases h with ⟨x, hx, hq⟩ | h
      · exact absurd (List.findIdx_lt_length_of_exists ⟨x, hx, List.isPrefixOf_iff_prefix.2 hq⟩) hlt
      · exact h
    have h2 := @List.findIdx_le_length _ (fun x => q.isPrefixOf x) Q
    have h3 : [p].findIdx (fun x => q.isPrefixOf x) = 0 := by simp [List.findIdx_cons, List.isPrefixOf_iff_prefix.2 hq]
    rw [h3]; omega
theorem EN_snoc (Q : List Pth) (p q : Pth) : EN (Q ++ [p]) q = if q = p ∧ EN Q q < 0 then (Q.length : Int) else EN Q q := by
  unfold EN
  rw [List.findIdx_append, List.length_append]
  by_cases hlt : Q.findIdx (fun x => x == q) < Q.length
  · rw [if_pos hlt, if_pos hlt, if_pos (by simp; omega), if_neg (by omega)]
  · rw [if_neg hlt, if_neg hlt]
    by_cases e : q = p
    · subst e
      have h3 : [q].findIdx (fun x => x == q) = 0 := by simp [List.findIdx_cons]
      rw [h3, if_pos (by simp), if_pos ⟨rfl, by omega⟩]
      simp
    · have h3 : [p].findIdx (fun x => x == q) = 1 := by
        have : (p == q) = false := by simpa using fun h => e h.symm
        simp [List.findIdx_cons, this]
      rw [h3, if_neg (by simp; omega), if_neg (fun h => e h.1)]
/-- The tree holds just the paths Q. -/
def TrieOf (w : World) (base g0 m0 : Nat) (Q : List Pth) : Prop :=
  ∃ loc, loc [] = some (g0, m0) ∧ (∀ q, (loc q).isSome = true ↔ q = [] ∨ ∃ x ∈ Q, q <+: x) ∧ Trie w base (fun _ => Q.length) (FS Q) (EN Q) loc
theorem TrieOf.start (w : World) : TrieOf (newNode w 0) w.heap.size (w.heap.size + 1) w.heap.size [] := by
  refine ⟨fun q => if q = [] then some (w.heap.size + 1, w.heap.size) else none, by simp, fun q => ?_, ?_, ?_, ?_, ?_⟩
  · by_cases e : q = []
    · simp [e]
    · simp [e]
  · intro q g m hq
    by_cases e : q = []
    · rw [if_pos e] at hq
      injection hq with hq
      injection hq with h1 h2
      subst h1 h2
      exact ⟨by omega, by omega, newNode_own w 0⟩
    · rw [if_neg e] at hq; cases hq
  · intro q g m hq
    by_cases e : q = []
    · rw [if_pos e] at hq
      injection hq with hq
      injection hq with h1 h2
      subst h1 h2
      refine ((MapOf.made w (.pointer none)).kept (w' := newNode w 0) (by rw [newNode_map]; exact (MapKept.heap_alloc w _).1.symm)).congr fun k => ?_
      simp [kid]
    · rw [if_neg e] at hq; cases hq
  · intro q q' g m g' m' hq hq' hne
    by_cases e : q = []
    · by_cases e' : q' = []
      · exact absurd (e.trans e'.symm) hne
      · rw [if_neg e'] at hq'; cases hq'
    · rw [if_neg e] at hq; cases hq
  · intro q k hq
    simp at hq
theorem TrieOf.below {w w' : World} {base g0 m0 : Nat} {Q : List Pth} (h : TrieOf w base g0 m0 Q) (hb : Below w.heap.size w w') : TrieOf w' base g0 m0 Q := by
  obtain ⟨loc, h1, h2, h3⟩ := h
  exact ⟨loc, h1, h2, h3.below hb⟩
/-- All strings within reach. -/
def Shorts (P : List (List ByteArray)) : Prop := ∀ x ∈ P, Short x
theorem row_block {w : World} {A : Option Addr} {n : Nat} {xs : List ByteArray} (h : Kd.string.C w A n xs) : ∀ k (ad : Addr), A = some ad → k < n → (ad.add k).block < w.heap.size := fun k ad e hk => by
  obtain ⟨ad', e', hc⟩ := at_str h k hk
  rw [e] at e'
  injection e' with e'
  subst e'
  exact World.block_lt_of_cell? w _ hc
/-- meet, over a tree that holds just the paths Q. -/
theorem meet_of (A0 : Option Addr) (c0 : Nat) (p : List ByteArray) (Q : List Pth) (w : World) (base g0 m0 : Nat) (ht : TrieOf w base g0 m0 Q) (hr : Kd.string.C w A0 p.length p) (hs : Short p) (hl : p.length ≤ 8796093022207) :
    ∃ a b : Int, Found Q (bl p) (a, b) ∧ Calls Try.prog 20 #[.pointer (some ⟨g0, 0, none⟩), .int .i64 (Q.length : Nat), .slice A0 p.length c0] w fun e w' => e = .returned (.tuple #[.int .i64 a, .int .i64 b]) ∧ w = w' := by
  obtain ⟨loc, h1, h2, h3⟩ := ht
  refine ⟨_, _, desc_ok Q (bl p) loc h2 (bl p) 0 Q.length 0 rfl (Nat.zero_le _) (.inl ⟨rfl, rfl, fun i x _ t ht => by omega⟩), ?_⟩
  exact meet_any A0 c0 p Q.length w base g0 m0 _ _ _ loc h3 h1 hr hs hl
/-- grow, over a tree that holds just the paths Q. -/
theorem grow_of (A0 : Option Addr) (c0 : Nat) (p : List ByteArray) (Q : List Pth) (w : World) (base g0 m0 : Nat) (ht : TrieOf w base g0 m0 Q) (hr : Kd.string.C w A0 p.length p) (hs : Short p) (hl : p.length ≤ 8796093022207)
    (hN : Q.length < 5864062014805) (hbase : base ≤ w.heap.size) (hrd : ∀ k (ad : Addr), A0 = some ad → k < p.length → (ad.add k).block < base) :
    Calls Try.prog 21 #[.pointer (some ⟨g0, 0, none⟩), .int .i64 (Q.length : Nat), .slice A0 p.length c0] w fun e w' => e = .returned (.tuple #[]) ∧ Below base w w' ∧ TrieOf w' base g0 m0 (Q ++ [bl p]) := by
  obtain ⟨loc, h1, h2, h3⟩ := ht
  refine (grow_any A0 c0 p Q.length w base g0 m0 Q.length _ _ loc h3 h1 hr hs hl hN hbase (fun q hq => ?_) hrd).mono ?_
  · have hno : ∀ x ∈ Q, ¬ q <+: x := fun x hx h => by
      have := (h2 q).2 (.inr ⟨x, hx, h⟩)
      rw [hq] at this; cases this
    exact ⟨FS_out hno, EN_out (fun x hx e => hno x hx (by rw [e]; exact List.prefix_refl _))⟩
  · rintro e w' ⟨he, hb, loc', hsub, hdom, htr⟩
    refine ⟨he, hb, loc', hsub _ _ h1, fun q => ?_, ?_⟩
    · rw [hdom, h2]
      constructor
      · rintro ((h | ⟨x, hx, h⟩) | ⟨t, ht, h⟩)
        · exact .inl h
        · exact .inr ⟨x, List.mem_append_left _ hx, h⟩
        · exact .inr ⟨bl p, by simp, take_prefix_iff.2 ⟨t, ht, h⟩⟩
      · rintro (h | ⟨x, hx, h⟩)
        · exact .inl (.inl h)
        · rcases List.mem_append.1 hx with hx | hx
          · exact .inl (.inr ⟨x, hx, h⟩)
          · rw [List.mem_singleton.1 hx] at h
            exact .inr (take_prefix_iff.1 h)
    · rw [List.length_append]
      refine htr.names fun q hq => ⟨?_, ?_⟩
      · refine FS_snoc ?_
        rcases (hdom q).1 hq with h | ⟨t, ht, h⟩
        · rcases (h2 q).1 h with h | h
          · exact .inr (by rw [h]; exact List.nil_prefix)
          · exact .inl h
        · exact .inr (take_prefix_iff.2 ⟨t, ht, h⟩)
      · exact EN_snoc Q (bl p) q
theorem found_none {P : List (List ByteArray)} {p : List ByteArray} {r : Int × Int} (h : Found (P.map bl) (bl p) r) (h0 : r.2 = 0) : find1 p P 0 = none := by
  rcases h with ⟨_, h⟩ | ⟨i, x, _, _, _, h, _⟩
  · refine find1_none p P 0 fun q hq => (bothV_zero q p).2 ?_
    obtain ⟨i, hi, he⟩ := List.getElem_of_mem hq
    exact h i (bl q) (by rw [List.getElem?_map, List.getElem?_eq_getElem hi, he]; rfl)
  · rw [h0] at h
    split at h <;> omega
theorem found_some {P : List (List ByteArray)} {p : List ByteArray} {r : Int × Int} (h : Found (P.map bl) (bl p) r) (h0 : r.2 ≠ 0) : ∃ i : Nat, r.1 = i ∧ find1 p P 0 = some (i, r.2) := by
  rcases h with ⟨h, _⟩ | ⟨i, x, h1, hx, hb, h2, hm⟩
  · exact absurd h h0
  · rw [List.getElem?_map] at hx
    cases hq : P[i]? with
    | none => rw [hq] at hx; cases hx
    | some q =>
      rw [hq] at hx
      have hxe : bl q = x := by simpa using hx
      subst hxe
      have hv : bothV q p = r.2 := by
        rw [h2]
        by_cases e : bl q = bl p
        · rw [if_pos e, bothV_same q p e]
        · rw [if_neg e, bothV_folder q p e hb]
      refine ⟨i, h1, ?_⟩
      have := find1_some p P 0 i q hq (by rw [hv]; exact h0) (fun i' x' hi' hx' => (bothV_zero x' p).2 (hm i' (bl x') hi' (by rw [List.getElem?_map, hx']; rfl)))
      rw [this, hv, Nat.zero_add]
set_option maxRecDepth 100000 in
theorem clash_any (A0 : Option Addr) (c0 : Nat) (P : List (List ByteArray)) (w : World) (hr : KL.C w A0 P.length P) (hl : P.length ≤ 5864062014804) (hs : Lens P) (hz : Shorts P) :
    Calls Try.prog 11 #[.slice A0 P.length c0] w fun e w' => e = .returned (ClashV P) ∧ Below w.heap.size w w' := by
  have HR := Aside0.mk hr
  have HS := Aside0.mk hs
  have HZ := Aside0.mk hz
  have HF : Hid (∀ a b c : Int, clashFrom P P.length 0 = (a, b, c) → ClashV P = .tuple #[.int .i64 a, .int .i64 b, .int .i64 c]) := Lib.hid fun a b c h => by rw [ClashV, h]
  have HST := Lib.hid (TrieOf.start w)
  have HSB : Hid (Below w.heap.size w (newNode w 0)) := Lib.hid (((Below.refl _ _).alloc (Nat.le_refl _) _).alloc (by simp) _)
  have hmm := @run_makeMap Try.prog
  clear hr hs hz
  go_enter Try.func11, Try.ntmps11
  go_wp2
  go_loopw [15] (fun i wr => ∃ k b : Nat, k ≤ P.length ∧ P.length ≤ k + b ∧ i = .int .i64 k ∧ Hid (clashFrom P b k = clashFrom P P.length 0) ∧ Hid (Below w.heap.size w wr) ∧ Hid (TrieOf wr w.heap.size (w.heap.size + 1) w.heap.size ((P.take k).map bl))) (fun i _ => P.length - (intOf i).toNat)
  case atStart => exact ⟨0, P.length, by omega, by omega, rfl, Lib.hid rfl, HSB, HST⟩
  case round =>
    obtain ⟨k, b, hk, hkb, rfl, HC, HB, HTR⟩ := hrel
    by_cases hlt : k < P.length
    · obtain ⟨b, rfl⟩ : ∃ m, b = m + 1 := ⟨b - 1, by omega⟩
      obtain ⟨ad, B, c, e1, hx, hlc, hrx⟩ := at_list HR.out k hlt
      have hrd := row_block hrx
      cases e1
      replace hx := cell_stay HB.out hx
      have HX := Lib.hid (Kd.C_below hrx HB.out)
      have HM := Lib.hid (HS.out _ (nth_mem [] P k hlt))
      have HSM := Lib.hid (HZ.out _ (nth_mem [] P k hlt))
      have hql : ((P.take k).map bl).length = k := by rw [List.length_map, List.length_take]; omega
      have HQL := Lib.hid hql
      obtain ⟨a, v, hfound, hcall⟩ := meet_of B c (lx P k) _ wr _ _ _ HTR.out HX.out HSM.out HM.out
      rw [hql] at hcall
      have HCALL := Lib.hid hcall
      have HFD := Lib.hid hfound
      have HRD := Lib.hid hrd
      have hbs : w.heap.size ≤ wr.heap.size := HB.out.size
      have HTS : Hid ((P.take (k + 1)).map bl = (P.take k).map bl ++ [bl (lx P k)]) := Lib.hid (by rw [show P.take (k + 1) = P.take k ++ [lx P k] from nth_take [] P k hlt]; simp)
      clear hrx hrd hql hcall hfound
      by_cases hv : v = 0
      · have hc1 : (v == 0) = true := by simp [hv]
        have hc2 : (v != 0) = false := by simp [hv]
        have HN := Lib.hid (found_none HFD.out hv)
        have HGR : Hid (Calls Try.prog 21 #[.pointer (some ⟨w.heap.size + 1, 0, none⟩), .int .i64 k, .slice B (lx P k).length c] wr fun e w' => e = .returned (.tuple #[]) ∧ Below w.heap.size wr w' ∧ TrieOf w' w.heap.size (w.heap.size + 1) w.heap.size ((P.take (k + 1)).map bl)) :=
          Lib.hid (by have := grow_of B c (lx P k) _ wr _ _ _ HTR.out HX.out HSM.out HM.out (by rw [HQL.out]; omega) hbs HRD.out; rw [HQL.out, ← HTS.out] at this; exact this)
        clear hv
        go_wp2_with fail
        go_at_call 20
        refine HCALL.out.mono ?_
        rintro e w1 ⟨rfl, rfl⟩
        go_wp2_with fail
        go_at_call 21
        refine HGR.out.mono ?_
        rintro e w2 ⟨rfl, hb2, htr2⟩
        have HB2 := Lib.hid hb2
        have HT2 := Lib.hid htr2
        clear hb2 htr2
        go_wp2
        go_roundw
        case rel => exact ⟨k + 1, b, by omega, by omega, by go_num, Lib.hid (by rw [← HC.out, clashFrom_none P b k hlt HN.out]), Lib.hid (HB.out.trans HB2.out), HT2⟩
        case measure => simp [intOf]; omega
      · have hc1 : (v == 0) = false := by simp [hv]
        have hc2 : (v != 0) = true := by simp [hv]
        obtain ⟨i, hi, hf⟩ := found_some HFD.out hv
        have HI : Hid (a = i) := Lib.hid hi
        have HN : Hid (find1 (lx P k) (P.take k) 0 = some (i, v)) := Lib.hid hf
        clear hv hi hf
        go_wp2_with fail
        go_at_call 20
        refine HCALL.out.mono ?_
        rintro e w1 ⟨rfl, rfl⟩
        go_wp2
        go_ret3
        exact ⟨by rw [HF.out a k v (by rw [← HC.out, clashFrom_some P b k i v hlt HN.out, HI.out])]; rfl, HB.out⟩
    · go_wp2
      go_ret3
      exact ⟨by rw [HF.out 0 0 0 (by rw [← HC.out, clashFrom_end P b k hlt])]; rfl, HB.out⟩
end Nm
end Go.Proofs.Ytpkeabggkeecaaa
