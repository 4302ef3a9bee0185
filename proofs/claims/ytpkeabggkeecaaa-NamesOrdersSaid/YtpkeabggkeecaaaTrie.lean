/- Layer 5 (names): the tree of forks that Clash keeps, in memory, and a walk of meet over it. Conditions: the path is read at its address, its strings within the form's reach. -/
import Derived.Test.YtpkeabggkeecaaaMap
import Derived.Test.YtpkeabggkeecaaaNi
set_option linter.unusedVariables false
set_option linter.unusedSimpArgs false
namespace Go.Proofs.Ytpkeabggkeecaaa
open Go.RowKit Go.Proofs.YtpkeabggkeecaaaW.PrintWords
namespace Nm
open Wd Mp
abbrev Pth := List (List UInt8)
/-- A path by its bytes. -/
def bl (p : List ByteArray) : Pth := p.map (·.toList)
/-- What a node's map holds at a key. -/
def kid (loc : Pth → Option (Nat × Nat)) (q : Pth) (k : List UInt8) : Value := match loc (q ++ [k]) with | some (g, _) => .pointer (some ⟨g, 0, none⟩) | none => .pointer none
/-- The tree in memory: loc: where a node (told by its path) and its map lie; fs, en: its two numbers. -/
structure Trie (w : World) (base : Nat) (bnd : Pth → Nat) (fs en : Pth → Int) (loc : Pth → Option (Nat × Nat)) : Prop where
  cell : ∀ q g m, loc q = some (g, m) → base ≤ g ∧ base ≤ m ∧ w.heap[g]? = some (.cells #[.map (some m), .int .i64 (fs q), .int .i64 (en q)] 44 (0, 0))
  map : ∀ q g m, loc q = some (g, m) → MapOf w m (bnd q) (.pointer none) (kid loc q)
  inj : ∀ q q' g m g' m', loc q = some (g, m) → loc q' = some (g', m') → q ≠ q' → g ≠ g' ∧ m ≠ m'
  closed : ∀ q k, (loc (q ++ [k])).isSome = true → (loc q).isSome = true
theorem Trie.below {w w' : World} {base : Nat} {bnd : Pth → Nat} {fs en : Pth → Int} {loc : Pth → Option (Nat × Nat)} (h : Trie w base bnd fs en loc) (hb : Below w.heap.size w w') : Trie w' base bnd fs en loc where
  cell := fun q g m hq => by
    obtain ⟨h1, h2, h3⟩ := h.cell q g m hq
    exact ⟨h1, h2, (hb.block g (Array.getElem?_eq_some_iff.1 h3).1).trans h3⟩
  map := fun q g m hq => (h.map q g m hq).kept (hb.block m (h.map q g m hq).lt)
  inj := h.inj
  closed := h.closed
theorem zeroFork (w : World) : (zeroValue 41).run Try.prog w = .ok (.pointer none) w := by kernel_rfl
/-- What stands behind a path's first keys: down the tree as far as there are nodes; the least end that is passed. -/
def desc (en : Pth → Int) (loc : Pth → Option (Nat × Nat)) : Pth → Pth → Int → Int → Option Pth × Int × Int
  | [], q, l, y => (some q, l, y)
  | k :: r, q, l, y =>
    if (loc (q ++ [k])).isSome = true then desc en loc r (q ++ [k]) (if 0 ≤ en q ∧ en q < l then en q else l) (if 0 ≤ en q ∧ en q < l then 57 else y)
    else (none, if 0 ≤ en q ∧ en q < l then en q else l, if 0 ≤ en q ∧ en q < l then 57 else y)
def meetEnd (fs en : Pth → Int) (j : Int) : Option Pth × Int × Int → Int × Int
  | (none, l, y) => (l, y)
  | (some q, l, y) => if 0 ≤ en q ∧ en q ≤ (if 0 < j ∧ fs q < l then fs q else l) then (en q, 56) else (if 0 < j ∧ fs q < l then fs q else l, if 0 < j ∧ fs q < l then 57 else y)
theorem node_cells {w : World} {g m : Nat} {a b : Int} {t : TypeId} (h : w.heap[g]? = some (.cells #[.map (some m), .int .i64 a, .int .i64 b] t (0, 0))) :
    w.cell? ⟨g, 0, none⟩ = some (.map (some m)) ∧ w.cell? ⟨g, 1, none⟩ = some (.int .i64 a) ∧ w.cell? ⟨g, 2, none⟩ = some (.int .i64 b) ∧ w.frozen? ⟨g, 2, none⟩ = false := by
  refine ⟨?_, ?_, ?_, ?_⟩ <;> simp [World.cell?, World.frozen?, h]
set_option maxRecDepth 100000 in
theorem meet_any (A0 : Option Addr) (c0 : Nat) (p : List ByteArray) (j : Int) (w : World) (base g0 m0 : Nat) (bnd : Pth → Nat) (fs en : Pth → Int) (loc : Pth → Option (Nat × Nat)) (ht : Trie w base bnd fs en loc) (h0 : loc [] = some (g0, m0)) (hr : Kd.string.C w A0 p.length p) (hs : Short p) (hl : p.length ≤ 8796093022207) :
    Calls Try.prog 20 #[.pointer (some ⟨g0, 0, none⟩), .int .i64 j, .slice A0 p.length c0] w fun e w' => e = .returned (.tuple #[.int .i64 (meetEnd fs en j (desc en loc (bl p) [] j 0)).1, .int .i64 (meetEnd fs en j (desc en loc (bl p) [] j 0)).2]) ∧ w = w' := by
  have HT := Aside0.mk ht
  have HR := Aside0.mk hr
  have HS := Aside0.mk hs
  have H0 := Lib.hid h0
  have HF : Hid (∀ a b : Int, meetEnd fs en j (desc en loc (bl p) [] j 0) = (a, b) → (Value.tuple #[.int .i64 (meetEnd fs en j (desc en loc (bl p) [] j 0)).1, .int .i64 (meetEnd fs en j (desc en loc (bl p) [] j 0)).2]) = .tuple #[.int .i64 a, .int .i64 b]) := Lib.hid fun a b h => by rw [h]
  clear ht hr hs h0
  go_enter Try.func20, Try.ntmps20
  go_wp2
  go_loop [0, 8, 9, 15] (fun f l y i => ∃ (k g m : Nat) (a b : Int), k ≤ p.length ∧ i = .int .i64 k ∧ f = .pointer (some ⟨g, 0, none⟩) ∧ Hid (loc (bl (p.take k)) = some (g, m)) ∧ l = .int .i64 a ∧ y = .int .i64 b ∧ Hid (desc en loc (bl (p.drop k)) (bl (p.take k)) a b = desc en loc (bl p) [] j 0)) (fun _ _ _ i => p.length - (intOf i).toNat)
  case atStart => exact ⟨0, g0, m0, j, 0, by omega, rfl, rfl, H0, rfl, rfl, Lib.hid rfl⟩
  case round =>
    obtain ⟨k, g, m, a, b, hk, rfl, rfl, HL, rfl, rfl, HC⟩ := hrel
    obtain ⟨_, _, hg⟩ := HT.out.cell _ _ _ HL.out
    have hmap := HT.out.map _ _ _ HL.out
    obtain ⟨n1, n2, n3, n4⟩ := node_cells hg
    generalize hen : en (bl (p.take k)) = v at n3
    generalize hfs : fs (bl (p.take k)) = z at n2
    have HE := Lib.hid hen
    have HZ := Lib.hid hfs
    clear hen hfs hg
    by_cases hlt : k < p.length
    · obtain ⟨ad, e0, hx⟩ := at_str HR.out k hlt
      cases e0
      have hlk := hmap.lookup (t := 42) Try.underlying42 (zeroFork w) (sx p k) (Nat.le_trans (HS.out _ (sx_mem p k hlt)) (by unfold maxLen; omega))
      have htk : bl (p.take (k + 1)) = bl (p.take k) ++ [(sx p k).toList] := by rw [sx_take p k hlt]; simp [bl]
      have HTK := Lib.hid htk
      have HU : Hid (desc en loc (bl (p.drop k)) (bl (p.take k)) a b = if (loc (bl (p.take k) ++ [(sx p k).toList])).isSome = true then desc en loc (bl (p.drop (k + 1))) (bl (p.take k) ++ [(sx p k).toList]) (if 0 ≤ v ∧ v < a then v else a) (if 0 ≤ v ∧ v < a then 57 else b) else (none, if 0 ≤ v ∧ v < a then v else a, if 0 ≤ v ∧ v < a then 57 else b)) :=
        Lib.hid (by rw [sx_drop p k hlt, ← HE.out]; rfl)
      clear htk hmap
      cases hkid : loc (bl (p.take k) ++ [(sx p k).toList]) with
      | none =>
        have hkv : kid loc (bl (p.take k)) (sx p k).toList = .pointer none := by simp [kid, hkid]
        rw [hkv] at hlk
        rw [hkid, if_neg (by simp)] at HU
        clear hkid hkv
        by_cases d1 : 0 ≤ v
        · by_cases d2 : v < a
          · have HQ := Lib.hid (show 0 ≤ v ∧ v < a from ⟨d1, d2⟩)
            go_wp2
            go_ret2
            exact ⟨by rw [HF.out v 57 (by rw [← HC.out, HU.out, if_pos HQ.out, if_pos HQ.out]; rfl)]; rfl, rfl⟩
          · have HQ := Lib.hid (show ¬ (0 ≤ v ∧ v < a) by omega)
            go_wp2
            go_ret2
            exact ⟨by rw [HF.out a b (by rw [← HC.out, HU.out, if_neg HQ.out, if_neg HQ.out]; rfl)]; rfl, rfl⟩
        · have HQ := Lib.hid (show ¬ (0 ≤ v ∧ v < a) by omega)
          have d1' : decide (0 ≤ v) = false := decide_eq_false d1
          go_wp2
          go_ret2
          exact ⟨by rw [HF.out a b (by rw [← HC.out, HU.out, if_neg HQ.out, if_neg HQ.out]; rfl)]; rfl, rfl⟩
      | some gm =>
        obtain ⟨g', m'⟩ := gm
        have hkv : kid loc (bl (p.take k)) (sx p k).toList = .pointer (some ⟨g', 0, none⟩) := by simp [kid, hkid]
        rw [hkv] at hlk
        rw [hkid, if_pos (by rfl), ← HTK.out] at HU
        have HL' : Hid (loc (bl (p.take (k + 1))) = some (g', m')) := Lib.hid (by rw [HTK.out]; exact hkid)
        clear hkid hkv
        by_cases d1 : 0 ≤ v
        · by_cases d2 : v < a
          · have HQ := Lib.hid (show 0 ≤ v ∧ v < a from ⟨d1, d2⟩)
            go_wp2
            go_round
            case rel => exact ⟨k + 1, g', m', v, 57, by omega, by go_num, rfl, HL', rfl, rfl, Lib.hid (by rw [← HC.out, HU.out, if_pos HQ.out, if_pos HQ.out])⟩
            case measure => simp [intOf]; omega
          · have HQ := Lib.hid (show ¬ (0 ≤ v ∧ v < a) by omega)
            go_wp2
            go_round
            case rel => exact ⟨k + 1, g', m', a, b, by omega, by go_num, rfl, HL', rfl, rfl, Lib.hid (by rw [← HC.out, HU.out, if_neg HQ.out, if_neg HQ.out])⟩
            case measure => simp [intOf]; omega
        · have HQ := Lib.hid (show ¬ (0 ≤ v ∧ v < a) by omega)
          have d1' : decide (0 ≤ v) = false := decide_eq_false d1
          go_wp2
          go_round
          case rel => exact ⟨k + 1, g', m', a, b, by omega, by go_num, rfl, HL', rfl, rfl, Lib.hid (by rw [← HC.out, HU.out, if_neg HQ.out, if_neg HQ.out])⟩
          case measure => simp [intOf]; omega
    · have HU : Hid (meetEnd fs en j (desc en loc (bl p) [] j 0) = if 0 ≤ v ∧ v ≤ (if 0 < j ∧ z < a then z else a) then (v, 56) else (if 0 < j ∧ z < a then z else a, if 0 < j ∧ z < a then 57 else b)) :=
        Lib.hid (by rw [← HC.out, show p.drop k = [] from List.drop_of_length_le (by omega), ← HE.out, ← HZ.out]; rfl)
      clear hmap
      go_wp2
      all_goals
        go_ret2
        refine ⟨congrArg Ending.returned (HF.out _ _ ?_).symm, rfl⟩
        rw [HU.out]
        (repeat' split) <;> first | rfl | (exfalso; omega) | (simp; omega)
end Nm
end Go.Proofs.Ytpkeabggkeecaaa
