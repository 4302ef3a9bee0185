/- Rows of laws: what the reading of a struct or an array as data says of its cells. No conditions. -/
import Derived.Test.YtjeeakhgjcbhaaaRow
import Derived.Test.YtjeeakhgjcbhaaaWArr
set_option linter.unusedVariables false
set_option linter.unusedSimpArgs false
namespace Go.Proofs.Ytjeeakhgjcbhaaa
open Go.ChangeShapes Go.WideShapes Go.ChangeAt Go.RowKit Go.Proofs.YtjeeakhgjcbhaaaW.PrintWords
namespace Rw
theorem pick_list {α : Type} {p : Nat → α → Prop} : ∀ (n : Nat), (∀ i, i < n → ∃ x, p i x) → ∃ l : List α, l.length = n ∧ ∀ i (h : i < l.length), p i l[i]
  | 0, _ => ⟨[], rfl, fun i h => absurd h (by simp)⟩
  | n + 1, h => by
    obtain ⟨l, hl, hp⟩ := pick_list n fun i hi => h i (by omega)
    obtain ⟨x, hx⟩ := h n (by omega)
    refine ⟨l ++ [x], by simp [hl], fun i hi => ?_⟩
    rcases Nat.lt_or_ge i l.length with hi' | hi'
    · rw [List.getElem_append_left hi']; exact hp i hi'
    · have : i = n := by simp at hi; omega
      subst this
      rw [List.getElem_append_right hi']
      simpa [hl] using hx
section
variable {P : Program} {t e : TypeId}
theorem opens_map {α β : Type} {k : Kd α} {G : α → Prop} {k' : Kd β} {G' : β → Prop} (h : Opens P t k G) (hm : ∀ w x cs, k.K w x cs → G x → ∃ y, k'.K w y cs ∧ G' y) : Opens P t k' G' := by
  intro H enc w base spare held fuel cs d pl ht hz
  obtain ⟨x, hK, hG⟩ := h ht hz
  exact hm w x cs hK hG
theorem opens_arr {α : Type} {k : Kd α} {G : α → Prop} {n : Nat} (hu : P.underlying t = some (.array n e)) (hk : k.sz = P.cellsOf e) (hct : P.cellsOf t = n * P.cellsOf e) (hs : 0 < k.sz) (he : Opens P e k G) : Opens P t (Kd.arr n k hs) (fun xs => ∀ x ∈ xs, G x) := by
  intro H enc w base spare held fuel cs d pl h hz
  obtain ⟨xs, m, _, hx, hl, hxl, hel⟩ := DataW.trod_array hu h
  simp only [Prod.mk.injEq] at hx
  obtain ⟨rfl, rfl⟩ := hx
  have key : ∀ i, i < n → ∃ y, k.K w y ((cs.drop (i * k.sz)).take k.sz) ∧ G y := fun i hi => by
    have hi' : i < xs.length := by omega
    have h1 := hel i hi
    rw [List.getElem?_eq_getElem hi', ← hk] at h1
    refine he (d := xs[i].1) (pl := xs[i].2) h1 fun q hq => hz q ?_
    simp only [DataW.weights, hu]
    exact weightsAll_mem (List.mem_map.2 ⟨xs[i], List.getElem_mem hi', rfl⟩) q hq
  obtain ⟨ys, hyl, hy⟩ := pick_list n key
  refine ⟨ys, ⟨hyl, by rw [hyl, hk, ← hct]; exact hl, fun j p hj => ?_⟩, fun y hm => ?_⟩
  · obtain ⟨hj', rfl⟩ := List.getElem?_eq_some_iff.1 hj
    exact (hy j hj').1
  · obtain ⟨i, hi, rfl⟩ := List.getElem_of_mem hm
    exact (hy i hi).2
/-- Fields in line, from offset off on. -/
def OpensF (P : Program) (fs : List Field) (off : Nat) {α : Type} (k : Kd α) (G : α → Prop) : Prop :=
  ∀ {H : Type} {enc : TypeId × Value → H} {w : World} {base : Nat} {spare : Nat → Bool} {held : Bool} {n : Nat} {cs : List Value} {xs : List (DataW H × List MemPlace)},
    xs.length = fs.length → (∀ (j : Nat) (f : Field), fs[j]? = some f → DataW.trod enc P w base spare held n f.type ((cs.drop f.offset).take (P.cellsOf f.type)) = xs[j]?) →
    (∀ q ∈ DataW.weightsEach P (fs.map (·.type)) (xs.map (·.1)), q ≤ reachBytes) → cs.length = off + k.sz → ∃ x, k.K w x (cs.drop off) ∧ G x
theorem opensF_one {α : Type} {k : Kd α} {G : α → Prop} {f : Field} {off : Nat} (hf : f.offset = off) (hk : k.sz = P.cellsOf f.type) (h : Opens P f.type k G) : OpensF P [f] off k G := by
  intro H enc w base spare held n cs xs hl hx hz hcs
  match xs, hl with
  | [x], _ =>
    have h1 := hx 0 f rfl
    rw [hf, ← hk, List.take_of_length_le (by rw [List.length_drop]; omega)] at h1
    exact h (d := x.1) (pl := x.2) h1 fun q hq => hz q (by simp [DataW.weightsEach, hq])
theorem opensF_cons {α β : Type} {k : Kd α} {G : α → Prop} {k' : Kd β} {G' : β → Prop} {f : Field} {fs : List Field} {off : Nat} (hf : f.offset = off) (hk : k.sz = P.cellsOf f.type) (h : Opens P f.type k G) (hfs : OpensF P fs (off + k.sz) k' G') :
    OpensF P (f :: fs) off (Kd.pair k k') (fun x => G x.1 ∧ G' x.2) := by
  intro H enc w base spare held n cs xs hl hx hz hcs
  match xs, hl with
  | x :: xs, hl =>
    have h1 := hx 0 f rfl
    rw [hf, ← hk] at h1
    have hsz : (Kd.pair k k').sz = k.sz + k'.sz := rfl
    rw [hsz] at hcs
    obtain ⟨y, hK, hG⟩ := h (d := x.1) (pl := x.2) h1 fun q hq => hz q (by simp [DataW.weightsEach, hq])
    obtain ⟨z, hK', hG'⟩ := hfs (cs := cs) (xs := xs) (by simpa using hl) (fun j g hj => hx (j + 1) g hj) (fun q hq => hz q (by simp [DataW.weightsEach, hq])) (by omega)
    refine ⟨(y, z), ⟨(cs.drop off).take k.sz, cs.drop (off + k.sz), ?_, hK, hK'⟩, hG, hG'⟩
    rw [← List.drop_drop, List.take_append_drop]
theorem opens_struct {α : Type} {k : Kd α} {G : α → Prop} {fs : Array Field} (hu : P.underlying t = some (.struct fs)) (hct : P.cellsOf t = k.sz) (h : OpensF P fs.toList 0 k G) : Opens P t k G := by
  intro H enc w base spare held fuel cs d pl ht hz
  obtain ⟨xs, n, _, hx, hl, hxl, hf⟩ := DataW.trod_struct hu ht
  simp only [Prod.mk.injEq] at hx
  obtain ⟨rfl, rfl⟩ := hx
  have := h (cs := cs) (xs := xs) (by simpa using hxl) (fun j f hj => hf j f (by simpa using hj)) (fun q hq => hz q (by simp only [DataW.weights, hu]; exact hq)) (by omega)
  rwa [List.drop_zero] at this
end
end Rw
end Go.Proofs.Ytjeeakhgjcbhaaa
