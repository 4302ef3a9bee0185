/- Words for a map from strings that a call has made: what it holds, key by key, as values. Conditions: a key's length is one that an int holds; the map has room. -/
import Derived.Test.YtpkeabggkeecaaaWd
import Derived.Maps.OwnOps
import Derived.Maps.Views
import Derived.StringKeys
set_option linter.unusedVariables false
set_option linter.unusedSimpArgs false
namespace Go.Proofs.Ytpkeabggkeecaaa
open Go.RowKit Go.Proofs.YtpkeabggkeecaaaW.PrintWords
namespace Mp
/-- A map's element reads as itself. -/
def Rv (x : Value) : Option (DataW Value × List MemPlace) := some (.held x, [])
/-- Block m of w is a map from strings, of at most n entries, that holds C at each key (z: the element's zero value). -/
def MapOf (w : World) (m n : Nat) (z : Value) (C : List UInt8 → Value) : Prop :=
  ∃ D : DataW Value, w.ownsMap Try.prog 9 Rv m n D ∧ Maps.IsMap D ∧ ∀ s, D.atKey (.string s) (.held z) = .held (C s)
theorem MapOf.made (w : World) (z : Value) : MapOf (w.alloc (.map #[] 0)) w.heap.size 0 z (fun _ => z) := ⟨_, World.ownsMap_made w _ _ _, ⟨[], rfl⟩, fun _ => rfl⟩
theorem MapOf.mono {w : World} {m n n' : Nat} {z : Value} {C : List UInt8 → Value} (h : MapOf w m n z C) (hn : n ≤ n') : MapOf w m n' z C := by
  obtain ⟨D, h1, h2⟩ := h
  exact ⟨D, h1.mono hn, h2⟩
theorem MapOf.lt {w : World} {m n : Nat} {z : Value} {C : List UInt8 → Value} (h : MapOf w m n z C) : m < w.heap.size := by
  obtain ⟨D, h1, h2⟩ := h
  exact h1.lt
theorem MapOf.kept {w w' : World} {m n : Nat} {z : Value} {C : List UInt8 → Value} (h : MapOf w m n z C) (hb : w'.heap[m]? = w.heap[m]?) : MapOf w' m n z C := by
  obtain ⟨D, ⟨es, clock, h1, h3⟩, h2⟩ := h
  exact ⟨D, ⟨es, clock, hb.trans h1, h3⟩, h2⟩
theorem MapOf.congr {w : World} {m n : Nat} {z : Value} {C C' : List UInt8 → Value} (h : MapOf w m n z C) (hc : ∀ s, C s = C' s) : MapOf w m n z C' := by
  obtain ⟨D, h1, h2, h3⟩ := h
  exact ⟨D, h1, h2, fun s => by rw [h3 s, hc s]⟩
theorem MapOf.lookup {w : World} {m n : Nat} {z : Value} {C : List UInt8 → Value} (h : MapOf w m n z C) {t e : TypeId} (ht : Try.prog.underlying t = some (.map 9 e)) (hz : (zeroValue e).run Try.prog w = .ok z w) (s : ByteArray) (hs : s.size ≤ maxLen) :
    (Instr.lookup t (.map (some m)) (.string s) false).run Try.prog w = .ok (C s.toList) w := by
  obtain ⟨D, h1, h2, h3⟩ := h
  obtain ⟨x, ps, hrun, hx⟩ := h1.lookup (Maps.string_keyed Try.underlying9) ht hz (zd := .held z) (zp := []) rfl (Go.WideMaps.keyOf_string_mk Try.underlying9 hs)
  have h4 := h3 s.data.toList
  rw [h4] at hx
  simp only [Rv, Option.some.injEq, Prod.mk.injEq, DataW.held.injEq] at hx
  rw [hrun, hx.1, ByteArray.toList_eq]
theorem MapOf.update {w : World} {m n : Nat} {z : Value} {C : List UInt8 → Value} (h : MapOf w m n z C) {t e : TypeId} (ht : Try.prog.underlying t = some (.map 9 e)) (hn : n < maxLen) (s : ByteArray) (hs : s.size ≤ maxLen) (x : Value) :
    ∃ w', (Instr.mapUpdate t (.map (some m)) (.string s) x).run Try.prog w = .ok () w' ∧ MapOf w' m (n + 1) z (fun k => if k = s.toList then x else C k) ∧ w.grownBy w' (some m) := by
  obtain ⟨D, h1, h2, h3⟩ := h
  obtain ⟨w', hrun, ho, hg⟩ := h1.update (Maps.string_keyed Try.underlying9) ht hn (Go.WideMaps.keyOf_string_mk Try.underlying9 hs) (show Rv x = some (.held x, []) from rfl)
  refine ⟨w', hrun, ⟨_, ho, ?_, fun k => ?_⟩, hg⟩
  · obtain ⟨es, rfl⟩ := h2
    exact ⟨_, rfl⟩
  · have hk : WideAt.IsKeyLit (Lit.string s.data.toList) := by first | exact trivial | rfl | simp [WideAt.IsKeyLit]
    show (D.put _ _).atKey _ _ = DataW.held (if k = s.toList then x else C k)
    by_cases e : k = s.toList
    · rw [if_pos e, e, ByteArray.toList_eq]
      exact Maps.atKey_put_same h2 hk _ _
    · have hne : Lit.string k ≠ Lit.string s.data.toList := fun h => e ((Lit.string.inj h).trans (ByteArray.toList_eq s).symm)
      rw [if_neg e, Maps.atKey_put_other hne]
      exact h3 k
end Mp
end Go.Proofs.Ytpkeabggkeecaaa
