/- Layer 5 (names): grow, which lays a path into the tree of forks. Conditions: the path is read at its address, its strings within the form's reach; the maps have room. -/
import Derived.Test.YtpkeabggkeecaaaTrie
set_option linter.unusedVariables false
set_option linter.unusedSimpArgs false
namespace Go.Proofs.Ytpkeabggkeecaaa
open Go.RowKit Go.Proofs.YtpkeabggkeecaaaW.PrintWords
namespace Nm
open Wd Mp
theorem snoc_inj {x q : Pth} {k s : List UInt8} (h : x ++ [k] = q ++ [s]) : x = q ∧ k = s := by
  have := List.append_inj' h rfl
  exact ⟨this.1, by simpa using this.2⟩
theorem snoc_ne (q : Pth) (s : List UInt8) : q ≠ q ++ [s] := fun h => by have := congrArg List.length h; simp at this
theorem Trie.lt {w : World} {base : Nat} {bnd : Pth → Nat} {fs en : Pth → Int} {loc : Pth → Option (Nat × Nat)} (h : Trie w base bnd fs en loc) {q : Pth} {g m : Nat} (hq : loc q = some (g, m)) : g < w.heap.size ∧ m < w.heap.size :=
  ⟨(Array.getElem?_eq_some_iff.1 (h.cell q g m hq).2.2).1, (h.map q g m hq).lt⟩
/-- A node's own block is no node's map. -/
theorem Trie.apart {w : World} {base : Nat} {bnd : Pth → Nat} {fs en : Pth → Int} {loc : Pth → Option (Nat × Nat)} (h : Trie w base bnd fs en loc) {q q' : Pth} {g m g' m' : Nat} (hq : loc q = some (g, m)) (hq' : loc q' = some (g', m')) : g ≠ m' := by
  rintro rfl
  obtain ⟨D, ⟨es, clock, h1, _⟩, _⟩ := h.map q' g' g hq'
  rw [(h.cell q g m hq).2.2] at h1
  cases h1
theorem Trie.room {w : World} {base : Nat} {bnd bnd' : Pth → Nat} {fs en : Pth → Int} {loc : Pth → Option (Nat × Nat)} (h : Trie w base bnd fs en loc) (hb : ∀ q, bnd q ≤ bnd' q) : Trie w base bnd' fs en loc :=
  ⟨h.cell, fun q g m hq => (h.map q g m hq).mono (hb q), h.inj, h.closed⟩
theorem Trie.names {w : World} {base : Nat} {bnd : Pth → Nat} {fs en fs' en' : Pth → Int} {loc : Pth → Option (Nat × Nat)} (h : Trie w base bnd fs en loc) (h1 : ∀ q, (loc q).isSome = true → fs' q = fs q ∧ en' q = en q) : Trie w base bnd fs' en' loc :=
  ⟨fun q g m hq => by
    obtain ⟨a, b⟩ := h1 q (by rw [hq]; rfl)
    rw [a, b]; exact h.cell q g m hq, h.map, h.inj, h.closed⟩
/-- The world in which a new node has been made: its map, its own block. -/
def newNode (w : World) (j : Int) : World := (w.alloc (.map #[] 0)).alloc (.cells #[.map (some w.heap.size), .int .i64 j, .int .i64 (-1)] 44)
theorem newNode_size (w : World) (j : Int) : (newNode w j).heap.size = w.heap.size + 2 := by simp [newNode]
theorem newNode_old (w : World) (j : Int) {b : Nat} (h : b < w.heap.size) : (newNode w j).heap[b]? = w.heap[b]? := by
  show ((w.heap.push _).push _)[b]? = _
  rw [Array.getElem?_push, Array.getElem?_push, Array.size_push, if_neg (by omega), if_neg (by omega)]
theorem newNode_map (w : World) (j : Int) : (newNode w j).heap[w.heap.size]? = some (.map #[] 0) := by
  show ((w.heap.push _).push _)[w.heap.size]? = _
  rw [Array.getElem?_push, Array.getElem?_push, Array.size_push, if_neg (by omega), if_pos rfl]
theorem newNode_own (w : World) (j : Int) : (newNode w j).heap[w.heap.size + 1]? = some (.cells #[.map (some w.heap.size), .int .i64 j, .int .i64 (-1)] 44 (0, 0)) := by
  show ((w.heap.push _).push _)[w.heap.size + 1]? = _
  rw [Array.getElem?_push, Array.size_push, if_pos rfl]
theorem Trie.add {w w2 : World} {base : Nat} {bnd : Pth → Nat} {fs en : Pth → Int} {loc : Pth → Option (Nat × Nat)} (h : Trie w base bnd fs en loc) {q : Pth} {g m : Nat} {s : List UInt8} {j : Int} (hq : loc q = some (g, m)) (hn : loc (q ++ [s]) = none) (hbase : base ≤ w.heap.size)
    (hm : MapOf w2 m (bnd q + 1) (.pointer none) (fun k => if k = s then .pointer (some ⟨w.heap.size + 1, 0, none⟩) else kid loc q k)) (hg : (newNode w j).grownBy w2 (some m)) (hfs : fs (q ++ [s]) = j) (hen : en (q ++ [s]) = -1) :
    Trie w2 base (fun x => if x = q then bnd q + 1 else bnd x) fs en (fun x => if x = q ++ [s] then some (w.heap.size + 1, w.heap.size) else loc x) := by
  have hlt := h.lt hq
  have hsz := newNode_size w j
  have old : ∀ b, b < w.heap.size → b ≠ m → w2.heap[b]? = w.heap[b]? := fun b hb hbm => (hg.block b (by omega) (by simpa using hbm)).trans (newNode_old w j hb)
  refine ⟨?_, ?_, ?_, ?_⟩
  · intro x gx mx hx
    by_cases e : x = q ++ [s]
    · subst e
      rw [if_pos rfl] at hx
      injection hx with hx
      injection hx with h1 h2
      subst h1 h2
      refine ⟨by omega, hbase, ?_⟩
      rw [hg.block _ (by omega) (by simp; omega), newNode_own, hfs, hen]
    · rw [if_neg e] at hx
      obtain ⟨a, b, c⟩ := h.cell x gx mx hx
      exact ⟨a, b, (old gx (h.lt hx).1 (h.apart hx hq)).trans c⟩
  · intro x gx mx hx
    by_cases e : x = q ++ [s]
    · subst e
      rw [if_pos rfl] at hx
      injection hx with hx
      injection hx with h1 h2
      subst h1 h2
      have hmade := (MapOf.made w (.pointer none)).kept (w' := newNode w j) (by rw [newNode_map]; exact (MapKept.heap_alloc w _).1.symm)
      refine ((hmade.kept (w' := w2) (hg.block _ (by omega) (by simp; omega))).mono (Nat.zero_le _)).congr fun k => ?_
      have hne : q ++ [s] ++ [k] ≠ q ++ [s] := fun e => snoc_ne (q ++ [s]) k e.symm
      have hno : loc (q ++ [s] ++ [k]) = none := by
        cases hc : loc (q ++ [s] ++ [k]) with
        | none => rfl
        | some y => have := h.closed (q ++ [s]) k (by rw [hc]; rfl); rw [hn] at this; cases this
      simp only [kid, if_neg hne, hno]
    · rw [if_neg e] at hx
      by_cases eq : x = q
      · subst eq
        rw [hq] at hx
        injection hx with hx
        injection hx with h1 h2
        subst h1 h2
        rw [if_pos rfl]
        refine hm.congr fun k => ?_
        by_cases ek : k = s
        · subst ek; simp only [if_true, kid]
        · have hne : x ++ [k] ≠ x ++ [s] := fun e => ek (snoc_inj e).2
          simp only [if_neg ek, kid, if_neg hne]
      · rw [if_neg eq]
        have hne := (h.inj x q gx mx g m hx hq eq).2
        refine ((h.map x gx mx hx).kept (old mx (h.lt hx).2 hne)).congr fun k => ?_
        have hne2 : x ++ [k] ≠ q ++ [s] := fun e => eq (snoc_inj e).1
        simp only [kid, if_neg hne2]
  · intro x x' gx mx gx' mx' hx hx' hne
    by_cases e : x = q ++ [s]
    · rw [if_pos e] at hx
      injection hx with hx
      injection hx with h1 h2
      rw [if_neg (fun e' => hne (e.trans e'.symm))] at hx'
      have := h.lt hx'
      omega
    · rw [if_neg e] at hx
      by_cases e' : x' = q ++ [s]
      · rw [if_pos e'] at hx'
        injection hx' with hx'
        injection hx' with h1 h2
        have := h.lt hx
        omega
      · rw [if_neg e'] at hx'
        exact h.inj x x' gx mx gx' mx' hx hx' hne
  · intro x k hx
    by_cases e : x ++ [k] = q ++ [s]
    · obtain ⟨rfl, rfl⟩ := snoc_inj e
      rw [if_neg (snoc_ne x k), hq]; rfl
    · rw [if_neg e] at hx
      have := h.closed x k hx
      by_cases e2 : x = q ++ [s]
      · rw [if_pos e2]; rfl
      · rw [if_neg e2]; exact this
theorem Trie.setEnd {w : World} {base : Nat} {bnd : Pth → Nat} {fs en : Pth → Int} {loc : Pth → Option (Nat × Nat)} (h : Trie w base bnd fs en loc) {q : Pth} {g m : Nat} {j : Int} (hq : loc q = some (g, m)) :
    Trie (w.setCell ⟨g, 2, none⟩ (.int .i64 j)) base bnd fs (fun x => if x = q then j else en x) loc := by
  have other : ∀ b, b ≠ g → (w.setCell ⟨g, 2, none⟩ (.int .i64 j)).heap[b]? = w.heap[b]? := fun b hb => Below.heap_setCell w ⟨g, 2, none⟩ _ b hb
  refine ⟨?_, ?_, h.inj, h.closed⟩
  · intro x gx mx hx
    obtain ⟨a, b, c⟩ := h.cell x gx mx hx
    refine ⟨a, b, ?_⟩
    by_cases e : x = q
    · subst e
      rw [hq] at hx
      injection hx with hx
      injection hx with h1 h2
      subst h1 h2
      rw [if_pos rfl, blk_set c 2]
      rfl
    · rw [if_neg e, other gx (h.inj x q gx mx g m hx hq e).1]
      exact c
  · intro x gx mx hx
    exact (h.map x gx mx hx).kept (other mx (fun e => h.apart hq hx e.symm))
/-- What grow leaves: the path's nodes are there. -/
def Grown5 (w : World) (base : Nat) (N : Nat) (p : Pth) (j : Int) (fs en : Pth → Int) (loc : Pth → Option (Nat × Nat)) (e : Ending) (w' : World) : Prop :=
  e = .returned (.tuple #[]) ∧ Below base w w' ∧ ∃ loc', (∀ q x, loc q = some x → loc' q = some x) ∧ (∀ q, (loc' q).isSome = true ↔ (loc q).isSome = true ∨ ∃ t, t ≤ p.length ∧ q = p.take t) ∧
    Trie w' base (fun _ => N + 1) fs (fun q => if q = p ∧ en q < 0 then j else en q) loc'
set_option maxRecDepth 100000 in
theorem grow_any (A0 : Option Addr) (c0 : Nat) (p : List ByteArray) (j : Int) (w : World) (base g0 m0 N : Nat) (fs en : Pth → Int) (loc : Pth → Option (Nat × Nat)) (ht : Trie w base (fun _ => N) fs en loc) (h0 : loc [] = some (g0, m0)) (hr : Kd.string.C w A0 p.length p) (hs : Short p) (hl : p.length ≤ 8796093022207)
    (hN : N < 5864062014805) (hbase : base ≤ w.heap.size) (hnew : ∀ q, (loc q).isSome = false → fs q = j ∧ en q = -1) (hrd : ∀ k (ad : Addr), A0 = some ad → k < p.length → (ad.add k).block < base) :
    Calls Try.prog 21 #[.pointer (some ⟨g0, 0, none⟩), .int .i64 j, .slice A0 p.length c0] w (Grown5 w base N (bl p) j fs en loc) := by
  have HT := Aside0.mk ht
  have HR := Aside0.mk hr
  have HS := Aside0.mk hs
  have H0 := Lib.hid h0
  have HN := Lib.hid hnew
  have HRD := Lib.hid hrd
  have hmm := @run_makeMap Try.prog
  clear ht hr hs h0 hnew hrd
  go_enter Try.func21, Try.ntmps21
  go_wp2
  go_loopw [0, 11] (fun f i wr => ∃ (k g m : Nat), k ≤ p.length ∧ i = .int .i64 k ∧ f = .pointer (some ⟨g, 0, none⟩) ∧ Aside0 (∃ loc', loc' (bl (p.take k)) = some (g, m) ∧ (∀ q x, loc q = some x → loc' q = some x) ∧ (∀ q, (loc' q).isSome = true ↔ (loc q).isSome = true ∨ ∃ t, t ≤ k ∧ q = (bl p).take t) ∧ Trie wr base (fun q => if q.length < k then N + 1 else N) fs en loc') ∧ Aside0 (Below base w wr) ∧ base ≤ wr.heap.size) (fun _ i _ => p.length - (intOf i).toNat)
  case atStart => exact ⟨0, g0, m0, by omega, rfl, rfl, ⟨loc, H0.out, fun _ _ h => h, fun q => ⟨fun h => .inl h, fun h => by
      rcases h with h | ⟨t, h1, h2⟩
      · exact h
      · obtain rfl : t = 0 := by omega
        rw [h2, List.take_zero, H0.out]; rfl⟩, HT.out.room (fun q => by simp)⟩, ⟨Below.refl _ _⟩, hbase⟩
  case round =>
    obtain ⟨k, g, m, hk, rfl, rfl, HX, HB, hbs⟩ := hrel
    obtain ⟨lo, hq, hsub, hdom, htr⟩ := HX.out
    clear HX
    have HQ := Lib.hid hq
    have HSUB := Lib.hid hsub
    have HDOM := Lib.hid hdom
    have HTR := Aside0.mk htr
    obtain ⟨n1, n2, n3, n4⟩ := node_cells (htr.cell _ _ _ hq).2.2
    have hmap := htr.map _ _ _ hq
    have hlts := htr.lt hq
    have hgb := (htr.cell _ _ _ hq).1
    have hmb := (htr.cell _ _ _ hq).2.1
    have hgl := hlts.1
    have hml := hlts.2
    clear hq hsub hdom htr hlts
    by_cases hlt : k < p.length
    · obtain ⟨ad, e0, hx⟩ := at_str HR.out k hlt
      have hxb := HRD.out k ad e0 hlt
      cases e0
      replace hx := cell_keep HB.out hx hxb
      have hsl : (sx p k).size ≤ maxLen := Nat.le_trans (HS.out _ (sx_mem p k hlt)) (by unfold maxLen; omega)
      have hlk := hmap.lookup (t := 42) Try.underlying42 (zeroFork wr) (sx p k) hsl
      have htk : bl (p.take (k + 1)) = bl (p.take k) ++ [(sx p k).toList] := by rw [sx_take p k hlt]; simp [bl]
      have htk2 : bl (p.take (k + 1)) = (bl p).take (k + 1) := by simp [bl, List.map_take]
      have hlen : (bl (p.take k)).length = k := by simp [bl, List.length_take]; omega
      have HTK := Lib.hid htk
      have HTK2 := Lib.hid htk2
      have HLEN := Lib.hid hlen
      cases hkid : lo (bl (p.take k) ++ [(sx p k).toList]) with
      | some gm =>
        obtain ⟨g', m'⟩ := gm
        have hkv : kid lo (bl (p.take k)) (sx p k).toList = .pointer (some ⟨g', 0, none⟩) := by simp [kid, hkid]
        rw [hkv] at hlk
        have HL' : Hid (lo (bl (p.take (k + 1))) = some (g', m')) := Lib.hid (by rw [HTK.out]; exact hkid)
        clear hkid hkv hmap htk htk2 hlen hsl
        go_wp2
        go_roundw
        case rel => exact ⟨k + 1, g', m', by omega, by go_num, rfl, ⟨lo, HL'.out, HSUB.out, fun q => ⟨fun h => by
            rcases (HDOM.out q).1 h with h | ⟨t, h1, h2⟩
            · exact .inl h
            · exact .inr ⟨t, by omega, h2⟩, fun h => by
            rcases h with h | ⟨t, h1, h2⟩
            · exact (HDOM.out q).2 (.inl h)
            · by_cases e : t = k + 1
              · rw [h2, e, ← HTK2.out, HL'.out]; rfl
              · exact (HDOM.out q).2 (.inr ⟨t, by omega, h2⟩)⟩, HTR.out.room (fun q => by split <;> split <;> omega)⟩, HB, hbs⟩
        case measure => simp [intOf]; omega
      | none =>
        have hkv : kid lo (bl (p.take k)) (sx p k).toList = .pointer none := by simp [kid, hkid]
        rw [hkv] at hlk
        have hsz := newNode_size wr j
        have hmap1 : MapOf (newNode wr j) m N (.pointer none) (kid lo (bl (p.take k))) := (hmap.kept (newNode_old wr j hml)).mono (by rw [HLEN.out]; simp)
        obtain ⟨w2, hup, hm2, hg2⟩ := hmap1.update (t := 42) Try.underlying42 (by unfold maxLen; omega) (sx p k) hsl (.pointer (some ⟨wr.heap.size + 1, 0, none⟩))
        have HG2 := Aside0.mk hg2
        have hnone : loc (bl (p.take k) ++ [(sx p k).toList]) = none := by
          cases hc : loc (bl (p.take k) ++ [(sx p k).toList]) with
          | none => rfl
          | some y => rw [HSUB.out _ _ hc] at hkid; cases hkid
        have hv := HN.out _ (by rw [hnone]; rfl)
        have hnb : (if (bl (p.take k)).length < k then N + 1 else N) = N := by rw [HLEN.out]; simp
        have hadd := HTR.out.add (s := (sx p k).toList) (j := j) HQ.out hkid hbs (by rw [hnb]; exact hm2) hg2 hv.1 hv.2
        have HADD := Aside0.mk hadd
        have hb2 : Below base w w2 := (((HB.out.alloc hbs _).alloc (Nat.le_trans hbs (by simp)) _ : Below base w (newNode wr j))).grown hg2 (show base ≤ (newNode wr j).heap.size by rw [hsz]; omega) (fun i hi => by injection hi with hi; omega)
        have HB2 := Aside0.mk hb2
        have hs2 : base ≤ w2.heap.size := Nat.le_trans (by rw [hsz]; omega) hg2.size
        have c0 : (newNode wr j).cell? ⟨g, 0, none⟩ = some (.map (some m)) := by
          have := (node_cells ((newNode_old wr j hgl).trans (HTR.out.cell _ _ _ HQ.out).2.2)).1
          exact this
        have cx : (newNode wr j).cell? (ad.add k) = some (.string (sx p k)) := by
          have hbl := World.block_lt_of_cell? wr _ hx
          have e1 : (newNode wr j).cell? (ad.add k) = wr.cell? (ad.add k) := by simp only [World.cell?, newNode_old wr j hbl]
          rw [e1]; exact hx
        unfold newNode at c0 cx hup
        have HKI := Lib.hid hkid
        clear hkid hkv hmap htk htk2 hlen hsl hmap1 hm2 hg2 hnone hv hnb hadd hb2 hsz
        go_wp2
        go_roundw
        case rel => exact ⟨k + 1, wr.heap.size + 1, wr.heap.size, by omega, by go_num, rfl, ⟨_, by rw [HTK.out, if_pos rfl], fun q x hqx => by
            have := HSUB.out q x hqx
            rw [if_neg (fun e => by rw [e, HKI.out] at this; cases this)]; exact this, fun q => ⟨fun h => by
            by_cases e : q = bl (p.take k) ++ [(sx p k).toList]
            · exact .inr ⟨k + 1, by omega, by rw [e, ← HTK.out, HTK2.out]⟩
            · rw [if_neg e] at h
              rcases (HDOM.out q).1 h with h | ⟨t, h1, h2⟩
              · exact .inl h
              · exact .inr ⟨t, by omega, h2⟩, fun h => by
            by_cases e : q = bl (p.take k) ++ [(sx p k).toList]
            · rw [if_pos e]; rfl
            · rw [if_neg e]
              rcases h with h | ⟨t, h1, h2⟩
              · exact (HDOM.out q).2 (.inl h)
              · by_cases et : t = k + 1
                · exact absurd (by rw [h2, et, ← HTK2.out, HTK.out]) e
                · exact (HDOM.out q).2 (.inr ⟨t, by omega, h2⟩)⟩, HADD.out.room (fun q => by
              by_cases e : q = bl (p.take k)
              · rw [if_pos e, e, HLEN.out]; simp
              · rw [if_neg e]; split <;> split <;> omega)⟩, HB2, hs2⟩
        case measure => simp [intOf]; omega
    · obtain rfl : k = p.length := by omega
      have hfull : bl (p.take p.length) = bl p := by rw [List.take_length]
      rw [hfull] at n3
      have HFULL := Lib.hid hfull
      have hbl : (bl p).length = p.length := by simp [bl]
      have HBL := Lib.hid hbl
      generalize hev : en (bl p) = v at n3
      have HEV := Lib.hid hev
      clear hmap hfull hbl hev
      by_cases d1 : v < 0
      · go_wp2
        go_end0
        refine ⟨rfl, HB.out.setCell hgb _, lo, HSUB.out, fun q => by rw [HBL.out]; exact HDOM.out q, ?_⟩
        have := HTR.out.setEnd (j := j) (HFULL.out ▸ HQ.out)
        refine (this.room (fun q => by split <;> omega)).names (fun q _ => ⟨rfl, ?_⟩)
        by_cases e : q = bl p
        · rw [if_pos ⟨e, by rw [e, HEV.out]; exact d1⟩, if_pos e]
        · rw [if_neg (fun h => e h.1), if_neg e]
      · go_wp2
        go_end0
        refine ⟨rfl, HB.out, lo, HSUB.out, fun q => by rw [HBL.out]; exact HDOM.out q, ?_⟩
        refine (HTR.out.room (fun q => by split <;> omega)).names (fun q _ => ⟨rfl, ?_⟩)
        rw [if_neg (fun h => by rw [h.1, HEV.out] at h; omega)]
end Nm
end Go.Proofs.Ytpkeabggkeecaaa
