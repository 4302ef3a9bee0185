/- Rows of laws: what an argument's reading as data says of its value's cells (Opens), and how a walk that ends in 'true, and all that was there is as it was' becomes the row's contract. No conditions. Rows of laws: what the reading of a struct or an array as data says of its cells. No conditions. Small words that the walks of this seat share: results, bytes of a string, strings read out of a row, what a world keeps. No conditions. api.Value and api.Pair as data: a value nested in itself. Rows of laws: what the reading of an api.Value as data says of its cells. No conditions. Kinds of flat structs (numbers and bools alone, arrays of them too), and the loads and stores of whole structs. A metainfo as data: its kinds, the cells of a file and of a layer, and what their reading says. A metainfo made anew out of one that came in: the kinds, and the cells of what is built. Layer 9's law: twinMeta, the copy of a metainfo. Comparing whole structs and arrays of numbers: '==' answers whether they are the same. Layer 9's law: rowSame and pathSame of two rows that are one. Layer 9's law: metaSame of two metainfos that are one, without other keys. create: the small functions over a metainfo's files. Plain: powers of two, as 'n & (n - 1)' finds them. create.fault. torrentref9.fault. Plain: the list of all places, and how many they are. torrentref9.places. create.Pieces, create.Row. torrentref9.Row. create.At. -/
import Derived.Test.YtjeeakhgjcbhaaaRows
import Derived.Test.YtjeeakhgjcbhaaaWWords
import Derived.WalkKit
import Derived.ProofKit
import Derived.OpenShut
import Derived.ShutString
import Derived.ChangeOld
import Derived.Below
import Derived.SizedLaws
import Derived.Deep.Slices
import Derived.Test.YtjeeakhgjcbhaaaWArr
import Derived.Test.YtjeeakhgjcbhaaaProg
import Derived.WalkSpells
import Derived.WalkSmall
import Derived.Lib.Hide
import Derived.Deep.LoopGhost
import Derived.BigQuiet
import Derived.Deep.QuietTactic
import Derived.Deep.MidRow
import Derived.Laws.Tables
import Derived.Great.BuildSlice
import Derived.Laws.StructEq
import Derived.StillTailTactics
import Derived.Test.YtjeeakhgjcbhaaaWLast
import Derived.Lib.SmallJoins
import Derived.Outline
import Derived.DeepKeys
import Derived.Test.YtjeeakhgjcbhaaaPCreateBlocksx
import Derived.Laws.BitsAllLaws
import Derived.Laws.BitsLemmas
set_option linter.unusedVariables false
set_option linter.unusedSimpArgs false
namespace Go.Proofs.Ytjeeakhgjcbhaaa
open Go.ChangeShapes Go.WideShapes Go.ChangeAt Go.RowKit Go.Proofs.YtjeeakhgjcbhaaaW.PrintWords
namespace Rw
/-- Whatever reads as data at type t, within reach, has cells that say a value of kind k, for which G holds. -/
def Opens (P : Program) (t : TypeId) {α : Type} (k : Kd α) (G : α → Prop) : Prop :=
  ∀ {H : Type} {enc : TypeId × Value → H} {w : World} {base : Nat} {spare : Nat → Bool} {held : Bool} {fuel : Nat} {cs : List Value} {d : DataW H} {pl : List MemPlace},
    DataW.trod enc P w base spare held fuel t cs = some (d, pl) → (∀ n ∈ d.weights P t, n ≤ reachBytes) → ∃ x, k.K w x cs ∧ G x
section
variable {P : Program} {t e : TypeId}
theorem opens_int {k : IntKind} (hu : P.underlying t = some (.int k)) : Opens P t (Kd.int k) (fun n => (Lit.int k n).wf = true) := by
  intro H enc w base spare held fuel cs d pl h _
  obtain ⟨n, rfl, _, hw⟩ := DataW.trod_int hu h
  exact ⟨n, rfl, hw⟩
theorem opens_bool (hu : P.underlying t = some .bool) : Opens P t Kd.bool (fun _ => True) := by
  intro H enc w base spare held fuel cs d pl h _
  obtain ⟨b, rfl, _⟩ := DataW.trod_bool hu h
  exact ⟨b, rfl, trivial⟩
theorem opens_string (hu : P.underlying t = some .string) : Opens P t Kd.string (fun s => s.size ≤ reachBytes) := by
  intro H enc w base spare held fuel cs d pl h hz
  obtain ⟨s, rfl, hx, hs⟩ := DataW.trod_string hu h
  simp only [Prod.mk.injEq] at hx
  obtain ⟨rfl, rfl⟩ := hx
  refine ⟨s, rfl, ?_⟩
  have := hz s.data.toList.length (by simp [DataW.weights])
  simpa using this
theorem weightsAll_mem {H : Type} {P : Program} {e : TypeId} : ∀ {l : List (DataW H)} {d : DataW H}, d ∈ l → ∀ n ∈ d.weights P e, n ∈ DataW.weightsAll P e l
  | d0 :: l, d, hd, n, hn => by
    simp only [DataW.weightsAll, List.mem_append]
    rcases List.mem_cons.1 hd with rfl | hd
    · exact .inl hn
    · exact .inr (weightsAll_mem hd n hn)
theorem opens_slice {α : Type} {k : Kd α} {G : α → Prop} (hu : P.underlying t = some (.slice e)) (hk : k.sz = P.cellsOf e) (he : Opens P e k G) :
    Opens P t (Kd.slice e k) (fun xs => xs.length * P.bytesOf e ≤ reachBytes ∧ ∀ x ∈ xs, G x) := by
  intro H enc w base spare held fuel cs d pl h hz
  rcases Deep.open_slice hu h with ⟨rfl, hx⟩ | ⟨a, len, cap, m, n, D, Pl, rfl, hb, hl, hm, hmm, hx, hel⟩
  · exact ⟨[], ⟨none, 0, rfl, Nat.le_refl _, Kd.C_nil _ _⟩, by simp, by simp⟩
  · simp only [Prod.mk.injEq] at hx
    obtain ⟨rfl, rfl⟩ := hx
    have hlm : len ≤ m := by rw [hmm]; split <;> omega
    have hz1 : ∀ i, i < len → ∀ q ∈ (D i).weights P e, q ≤ reachBytes := fun i hi q hq => hz q (by
      simp only [DataW.weights, hu, List.mem_cons, List.mem_append]
      exact .inr (.inl (weightsAll_mem (List.mem_map.2 ⟨i, List.mem_range.2 hi, rfl⟩) q hq)))
    have hz0 := hz (((List.range len).map D).length + ((List.range (m - len)).map fun j => D (len + j)).length |>.mul (P.bytesOf e)) (by
      simp only [DataW.weights, hu, List.mem_cons]
      exact .inl rfl)
    have key : ∀ j, j ≤ len → ∃ xs : List α, xs.length = j ∧ (∀ x ∈ xs, G x) ∧ ∀ i (hi : i < xs.length), ∃ c, c.length = k.sz ∧ k.K w xs[i] c ∧ ∀ q u, c[q]? = some u → w.cell? (a.add (i * k.sz + q)) = some u := by
      intro j
      induction j with
      | zero => exact fun _ => ⟨[], rfl, by simp, fun i hi => absurd hi (by simp)⟩
      | succ j ih =>
        intro hj
        obtain ⟨xs, hxl, hxG, hxs⟩ := ih (by omega)
        obtain ⟨cs', hc1, hc2⟩ := hel j (by omega)
        obtain ⟨x, hK, hG⟩ := he hc2 (hz1 j (by omega))
        refine ⟨xs ++ [x], by simp [hxl], fun y hy => ?_, fun i hi => ?_⟩
        · rcases List.mem_append.1 hy with hy | hy
          · exact hxG y hy
          · rw [List.mem_singleton.1 hy]; exact hG
        · rcases Nat.lt_or_ge i xs.length with hi' | hi'
          · obtain ⟨c, h1, h2, h3⟩ := hxs i hi'
            exact ⟨c, h1, by rw [List.getElem_append_left hi']; exact h2, h3⟩
          · have hij : i = xs.length := by simp at hi; omega
            subst hij
            refine ⟨cs', k.K_len hK, by simpa using hK, fun q u hq => ?_⟩
            obtain ⟨_, hlen, hcell⟩ := World.cells?_some hc1
            rw [← hk, ← hxl] at hcell
            have hq' : q < cs'.length := (List.getElem?_eq_some_iff.1 hq).1
            have := hcell q (by rw [← k.K_len hK]; exact hq')
            rw [Deep.add_add] at this
            rw [this, ← hq]
    obtain ⟨xs, hxl, hxG, hxs⟩ := key len (Nat.le_refl _)
    subst hxl
    refine ⟨xs, ⟨some a, cap, rfl, hl, rfl, by unfold maxLen at hm; omega, fun hp => ⟨a, rfl, fun j p hj => ?_⟩⟩, ?_, hxG⟩
    · obtain ⟨hj', hp'⟩ := List.getElem?_eq_some_iff.1 hj
      obtain ⟨c, h1, h2, h3⟩ := hxs j hj'
      exact ⟨c, h1, by rw [← hp']; exact h2, h3⟩
    · simp only [List.length_map, List.length_range, Nat.mul_eq] at hz0
      exact Nat.le_trans (Nat.mul_le_mul_right _ (Nat.le_add_right _ _)) hz0
end
/-- All arguments read again behind a call that left all that was there as it was. -/
theorem trodAll_below {H : Type} {enc : TypeId × Value → H} {P : Program} (hl : laidOutB P = true) {W W' : World} (hb : Below W.heap.size W W') :
    ∀ {ts : List TypeId} {vs : List Value} {ds : List (DataW H)} {ps : List MemPlace}, ts.all (fun t => P.readableRec t && decide (t < P.types.size)) = true →
      DataW.TrodAll enc P W 0 (fun _ => true) true ts vs ds ps → DataW.TrodAll enc P W' 0 (fun b => decide (b < W.heap.size)) true ts vs ds ps
  | [], _, _, _, _, h => by
    obtain ⟨rfl, rfl, rfl⟩ := trodAll_nil h
    exact trodAll_mk0
  | t :: ts, _, _, _, hts, h => by
    obtain ⟨v, vs, d, ds, p, q, rfl, rfl, rfl, h1, h2⟩ := trodAll_cons h
    simp only [List.all_cons, Bool.and_eq_true, decide_eq_true_eq] at hts
    refine trodAll_cons_mk (Below.trod hl hts.1.1 hts.1.2 h1 hb ?_) (trodAll_below hl hb hts.2 h2)
    obtain ⟨m, hm⟩ := h1
    exact DataW.trod_lt m _ _ _ hm
/-- THE ROW'S CONTRACT out of a walk. -/
theorem lifted_law {H : Type} {enc : TypeId × Value → H} {C : Checked} {os : Os} {f : FuncId} {fn : Func} {s : ChangeSpec} {conds : List PathCond} {tb : TypeId}
    (own : ownKnob C.prog.godebug = none) (started : os.Started) (noInit : C.prog.inits.idxOf? f = none) (hfn : C.prog.funcs[f]? = some fn)
    (witness : ∃ (w : World) (tape : Tape) (i : Input), w.os = os ∧ (w.forCall tape i).Shaped C.prog ∧ i.vars = [] ∧ Input.okWide C.prog (w.forCall tape i) .any w.heap.size f i ∧
      s.pre6 enc C.prog fn conds false (w.forCall tape i).memory i.args ∧ Assume.holds {} C.prog (lone (Frame.enter C.prog f i.args .normal) [] (w.forCall tape i)))
    (hl : laidOutB C.prog = true) (hps : fn.params.toList.all (fun t => C.prog.readableRec t && decide (t < C.prog.types.size)) = true)
    (hres : fn.resultTypes = #[tb]) (htb : C.prog.underlying tb = some .bool) (hvars : s.vars = [])
    (hspec : ∀ ds : List (DataW H), ds.length = fn.params.toList.length → s.fn H ds = { results := [.lit (.bool true)], args := ds })
    (walk : ∀ (W : World) (args : Array Value) (ds : List (DataW H)) (p : List MemPlace) (base : Nat),
      (∀ (j : Nat) t v, fn.params.toList[j]? = some t → args.toList[j]? = some v → Value.okWide C.prog W .any base t v) →
      DataW.TrodAll enc C.prog W 0 (fun _ => true) true fn.params.toList args.toList ds p → (∀ n ∈ DataW.weightsEach C.prog fn.params.toList ds, n ≤ reachBytes) →
      Calls C.prog f args W fun e W' => e = .returned (.bool true) ∧ Below W.heap.size W W') :
    ReturnsInHanded {} C os f .any (s.pre6 enc C.prog fn conds false) (s.post enc C.prog fn false true false false) := by
  refine returnsInHanded_of_change_sized own started noInit hfn witness ?_
  intro W base args ds gs before hval hW _ hsz _
  have hW' := hW
  obtain ⟨p, q, hA, hV, rfl, _, _⟩ := hW
  rw [hvars] at hV
  obtain ⟨rfl, rfl⟩ := trodVars_none hV
  have hvt : s.plain.varTypes C.prog = [] := by simp [ChangeSpec.plain, DataSpec.varTypes, hvars]
  have hlen : ds.length = fn.params.toList.length := by
    have : ∀ {ts : List TypeId} {vs : List Value} {ds : List (DataW H)} {ps : List MemPlace}, DataW.TrodAll enc C.prog W 0 (fun _ => true) true ts vs ds ps → ds.length = ts.length := by
      intro ts
      induction ts with
      | nil => intro vs ds ps h; obtain ⟨rfl, rfl, rfl⟩ := trodAll_nil h; rfl
      | cons t ts ih => intro vs ds ps h; obtain ⟨v, vs, d, ds, p, q, rfl, rfl, rfl, h1, h2⟩ := trodAll_cons h; simp [ih h2]
    exact this hA
  rw [hvt, List.append_nil, List.append_nil] at hsz
  have hsp := hspec ds hlen
  refine (walk W args ds p base (fun j t v ht hv => hval j t v (by simpa using ht) (by simpa using hv)) hA (by simpa using hsz)).mono fun e W' ⟨he, bel⟩ => ⟨_, he, ?_⟩
  refine ⟨ds, [], _, [], p, [], hW', ?_, ?_, ?_, bel.frame _, fun h => by cases h⟩
  · rw [List.append_nil, hsp, hres]
    exact trodAll_mk1 (shut_bool htb _)
  · rw [List.append_nil, hsp]
    exact trodAll_below hl bel hps hA
  · rw [List.append_nil, hsp, hvars]
    rfl
/-- The first argument of a list, opened. -/
theorem open_arg {H : Type} {enc : TypeId × Value → H} {P : Program} {W : World} {α : Type} {k : Kd α} {G : α → Prop} {t : TypeId} (ho : Opens P t k G) {ts : List TypeId} {vs : List Value} {ds : List (DataW H)} {p : List MemPlace}
    (h : DataW.TrodAll enc P W 0 (fun _ => true) true (t :: ts) vs ds p) (hz : ∀ n ∈ DataW.weightsEach P (t :: ts) ds, n ≤ reachBytes) :
    ∃ v vs' ds' p' x, vs = v :: vs' ∧ k.K W x v.cells.toList ∧ G x ∧ DataW.TrodAll enc P W 0 (fun _ => true) true ts vs' ds' p' ∧ (∀ n ∈ DataW.weightsEach P ts ds', n ≤ reachBytes) := by
  obtain ⟨v, vs', d, ds', p1, q, rfl, rfl, rfl, ⟨m, hm⟩, h2⟩ := trodAll_cons h
  obtain ⟨x, hK, hG⟩ := ho hm (fun n hn => hz n (by simp [DataW.weightsEach, hn]))
  exact ⟨v, vs', ds', q, x, rfl, hK, hG, h2, fun n hn => hz n (by simp [DataW.weightsEach, hn])⟩
theorem open_end {H : Type} {enc : TypeId × Value → H} {P : Program} {W : World} {args : Array Value} {vs : List Value} {ds : List (DataW H)} {p : List MemPlace} (h : DataW.TrodAll enc P W 0 (fun _ => true) true [] vs ds p) : vs = [] := (trodAll_nil h).1
end Rw
end Go.Proofs.Ytjeeakhgjcbhaaa
set_option linter.unusedVariables false
set_option linter.unusedSimpArgs false
namespace Go.Proofs.Ytjeeakhgjcbhaaa
open Go.ChangeShapes Go.WideShapes Go.ChangeAt Go.RowKit Go.Proofs.YtjeeakhgjcbhaaaW.PrintWords
namespace Rw
theorem pick_list {α : Type} {p : Nat → α → Prop} : ∀ (n : Nat), (∀ i, i < n → ∃ x, p i x) → ∃ l : List α, l.length = n ∧ ∀ i (h : i < l.length), p i l[i]
  | 0, _ => ⟨[], rfl, fun i h => absurd h (by simp)⟩
  | n + 1, h => by
    obtain ⟨l, hl, hp⟩ := pick_list n fun i hi => h i (by omega)
    obtain ⟨x, hx⟩ := h n (by omega)
    refine ⟨l ++ [x], by simp [hl], fun i hi => ?_⟩
    rcases Nat.lt_or_ge i l.length with hi' | hi'
    · rw [List.getElem_append_left hi']; exact hp i hi'
    · have : i = n := by simp at hi; omega
      subst this
      rw [List.getElem_append_right hi']
      simpa [hl] using hx
section
variable {P : Program} {t e : TypeId}
theorem opens_map {α β : Type} {k : Kd α} {G : α → Prop} {k' : Kd β} {G' : β → Prop} (h : Opens P t k G) (hm : ∀ w x cs, k.K w x cs → G x → ∃ y, k'.K w y cs ∧ G' y) : Opens P t k' G' := by
  intro H enc w base spare held fuel cs d pl ht hz
  obtain ⟨x, hK, hG⟩ := h ht hz
  exact hm w x cs hK hG
theorem opens_arr {α : Type} {k : Kd α} {G : α → Prop} {n : Nat} (hu : P.underlying t = some (.array n e)) (hk : k.sz = P.cellsOf e) (hct : P.cellsOf t = n * P.cellsOf e) (hs : 0 < k.sz) (he : Opens P e k G) : Opens P t (Kd.arr n k hs) (fun xs => ∀ x ∈ xs, G x) := by
  intro H enc w base spare held fuel cs d pl h hz
  obtain ⟨xs, m, _, hx, hl, hxl, hel⟩ := DataW.trod_array hu h
  simp only [Prod.mk.injEq] at hx
  obtain ⟨rfl, rfl⟩ := hx
  have key : ∀ i, i < n → ∃ y, k.K w y ((cs.drop (i * k.sz)).take k.sz) ∧ G y := fun i hi => by
    have hi' : i < xs.length := by omega
    have h1 := hel i hi
    rw [List.getElem?_eq_getElem hi', ← hk] at h1
    refine he (d := xs[i].1) (pl := xs[i].2) h1 fun q hq => hz q ?_
    simp only [DataW.weights, hu]
    exact weightsAll_mem (List.mem_map.2 ⟨xs[i], List.getElem_mem hi', rfl⟩) q hq
  obtain ⟨ys, hyl, hy⟩ := pick_list n key
  refine ⟨ys, ⟨hyl, by rw [hyl, hk, ← hct]; exact hl, fun j p hj => ?_⟩, fun y hm => ?_⟩
  · obtain ⟨hj', rfl⟩ := List.getElem?_eq_some_iff.1 hj
    exact (hy j hj').1
  · obtain ⟨i, hi, rfl⟩ := List.getElem_of_mem hm
    exact (hy i hi).2
/-- Fields in line, from offset off on. -/
def OpensF (P : Program) (fs : List Field) (off : Nat) {α : Type} (k : Kd α) (G : α → Prop) : Prop :=
  ∀ {H : Type} {enc : TypeId × Value → H} {w : World} {base : Nat} {spare : Nat → Bool} {held : Bool} {n : Nat} {cs : List Value} {xs : List (DataW H × List MemPlace)},
    xs.length = fs.length → (∀ (j : Nat) (f : Field), fs[j]? = some f → DataW.trod enc P w base spare held n f.type ((cs.drop f.offset).take (P.cellsOf f.type)) = xs[j]?) →
    (∀ q ∈ DataW.weightsEach P (fs.map (·.type)) (xs.map (·.1)), q ≤ reachBytes) → cs.length = off + k.sz → ∃ x, k.K w x (cs.drop off) ∧ G x
theorem opensF_one {α : Type} {k : Kd α} {G : α → Prop} {f : Field} {off : Nat} (hf : f.offset = off) (hk : k.sz = P.cellsOf f.type) (h : Opens P f.type k G) : OpensF P [f] off k G := by
  intro H enc w base spare held n cs xs hl hx hz hcs
  match xs, hl with
  | [x], _ =>
    have h1 := hx 0 f rfl
    rw [hf, ← hk, List.take_of_length_le (by rw [List.length_drop]; omega)] at h1
    exact h (d := x.1) (pl := x.2) h1 fun q hq => hz q (by simp [DataW.weightsEach, hq])
theorem opensF_cons {α β : Type} {k : Kd α} {G : α → Prop} {k' : Kd β} {G' : β → Prop} {f : Field} {fs : List Field} {off : Nat} (hf : f.offset = off) (hk : k.sz = P.cellsOf f.type) (h : Opens P f.type k G) (hfs : OpensF P fs (off + k.sz) k' G') :
    OpensF P (f :: fs) off (Kd.pair k k') (fun x => G x.1 ∧ G' x.2) := by
  intro H enc w base spare held n cs xs hl hx hz hcs
  match xs, hl with
  | x :: xs, hl =>
    have h1 := hx 0 f rfl
    rw [hf, ← hk] at h1
    have hsz : (Kd.pair k k').sz = k.sz + k'.sz := rfl
    rw [hsz] at hcs
    obtain ⟨y, hK, hG⟩ := h (d := x.1) (pl := x.2) h1 fun q hq => hz q (by simp [DataW.weightsEach, hq])
    obtain ⟨z, hK', hG'⟩ := hfs (cs := cs) (xs := xs) (by simpa using hl) (fun j g hj => hx (j + 1) g hj) (fun q hq => hz q (by simp [DataW.weightsEach, hq])) (by omega)
    refine ⟨(y, z), ⟨(cs.drop off).take k.sz, cs.drop (off + k.sz), ?_, hK, hK'⟩, hG, hG'⟩
    rw [← List.drop_drop, List.take_append_drop]
theorem opens_struct {α : Type} {k : Kd α} {G : α → Prop} {fs : Array Field} (hu : P.underlying t = some (.struct fs)) (hct : P.cellsOf t = k.sz) (h : OpensF P fs.toList 0 k G) : Opens P t k G := by
  intro H enc w base spare held fuel cs d pl ht hz
  obtain ⟨xs, n, _, hx, hl, hxl, hf⟩ := DataW.trod_struct hu ht
  simp only [Prod.mk.injEq] at hx
  obtain ⟨rfl, rfl⟩ := hx
  have := h (cs := cs) (xs := xs) (by simpa using hxl) (fun j f hj => hf j f (by simpa using hj)) (fun q hq => hz q (by simp only [DataW.weights, hu]; exact hq)) (by omega)
  rwa [List.drop_zero] at this
end
end Rw
end Go.Proofs.Ytjeeakhgjcbhaaa
set_option linter.unusedVariables false
set_option linter.unusedSimpArgs false
namespace Go.Proofs.Ytjeeakhgjcbhaaa
open Go.RowKit Go.Proofs.YtjeeakhgjcbhaaaW.PrintWords
namespace Wd
theorem ret_i {k : IntKind} {a b : Int} (h : a = b) : Ending.returned (.int k a) = .returned (.int k b) := by rw [h]
theorem ret_b {a b : Bool} (h : a = b) : Ending.returned (.bool a) = .returned (.bool b) := by rw [h]
theorem bool_ext {a b : Bool} (h : a = true ↔ b = true) : a = b := by cases a <;> cases b <;> simp_all
/-- Byte i of a text; 0 beyond its end. -/
def byt (s : ByteArray) (i : Nat) : Int := if h : i < s.size then ((s[i]'h).toNat : Int) else 0
theorem byt_eq (s : ByteArray) (i : Nat) (h : i < s.size) : ((s[i]'h).toNat : Int) = byt s i := by simp [byt, h]
theorem byt_lo (s : ByteArray) (i : Nat) : 0 ≤ byt s i := by unfold byt; split <;> omega
theorem byt_hi (s : ByteArray) (i : Nat) : byt s i ≤ 255 := by
  unfold byt; split
  · rename_i h; have := (s[i]'h).toNat_lt; omega
  · omega
/-- Element i of a list (a word that the walk's simp leaves alone). -/
def nth {α : Type} (d : α) (xs : List α) (k : Nat) : α := xs.getD k d
/-- String i of a list. -/
def sx (xs : List ByteArray) (k : Nat) : ByteArray := xs.getD k ByteArray.empty
/-- String i of a row that is read. -/
theorem at_str {w : World} {A : Option Addr} {n : Nat} {xs : List ByteArray} (h : Kd.string.C w A n xs) (i : Nat) (hi : i < n) : ∃ ad, A = some ad ∧ w.cell? (ad.add i) = some (.string (sx xs i)) := by
  obtain ⟨ad, e, hc⟩ := Kd.at_string h i (by omega) (by omega)
  exact ⟨ad, e, by simpa [rdOf, sx] using hc⟩
theorem cell_keep {B : Nat} {w W : World} (h : Below B w W) {a : Addr} {u : Value} (hc : w.cell? a = some u) (hb : a.block < B) : W.cell? a = some u := (h.cell hb).trans hc
theorem cell_stay {w W : World} (h : Below w.heap.size w W) {a : Addr} {u : Value} (hc : w.cell? a = some u) : W.cell? a = some u := (h.cell (World.block_lt_of_cell? w _ hc)).trans hc
theorem getD_drop {α : Type} (xs : List α) (k : Nat) (d : α) (h : k < xs.length) : xs.drop k = xs.getD k d :: xs.drop (k + 1) := by
  rw [List.drop_eq_getElem_cons h, List.getD_eq_getElem?_getD, List.getElem?_eq_getElem h]; rfl
theorem getD_take {α : Type} (xs : List α) (k : Nat) (d : α) (h : k < xs.length) : xs.take (k + 1) = xs.take k ++ [xs.getD k d] := by
  rw [List.take_succ_eq_append_getElem h, List.getD_eq_getElem?_getD, List.getElem?_eq_getElem h]; rfl
theorem sx_drop (xs : List ByteArray) (k : Nat) (h : k < xs.length) : xs.drop k = sx xs k :: xs.drop (k + 1) := getD_drop xs k _ h
theorem sx_take (xs : List ByteArray) (k : Nat) (h : k < xs.length) : xs.take (k + 1) = xs.take k ++ [sx xs k] := getD_take xs k _ h
theorem nth_drop {α : Type} (d : α) (xs : List α) (k : Nat) (h : k < xs.length) : xs.drop k = nth d xs k :: xs.drop (k + 1) := getD_drop xs k _ h
theorem nth_take {α : Type} (d : α) (xs : List α) (k : Nat) (h : k < xs.length) : xs.take (k + 1) = xs.take k ++ [nth d xs k] := getD_take xs k _ h
theorem nth_mem {α : Type} (d : α) (xs : List α) (k : Nat) (h : k < xs.length) : nth d xs k ∈ xs := by
  unfold nth; rw [List.getD_eq_getElem?_getD, List.getElem?_eq_getElem h]; exact List.getElem_mem h
theorem sx_mem (xs : List ByteArray) (k : Nat) (h : k < xs.length) : sx xs k ∈ xs := nth_mem ByteArray.empty xs k h
/-- Two lengths, seen as unlike or as like, in all the spellings of a walk. -/
theorem len_eq {n m : Nat} (h : n = m) : ((n : Int) == (m : Int)) = true ∧ ((n : Int) != (m : Int)) = false ∧ (n == m) = true ∧ (n != m) = false := by subst h; simp
theorem len_ne {n m : Nat} (h : n ≠ m) : ((n : Int) == (m : Int)) = false ∧ ((n : Int) != (m : Int)) = true ∧ (n == m) = false ∧ (n != m) = true := by
  refine ⟨?_, ?_, ?_, ?_⟩ <;> simp <;> omega
theorem bel_iter {w w0 : World} (h : Below w.heap.size w w0) (s : ByteArray) (p : Nat) : Below w.heap.size w (w0.iter s p) := below_alloc h _
end Wd
end Go.Proofs.Ytjeeakhgjcbhaaa
set_option linter.unusedVariables false
set_option linter.unusedSimpArgs false
namespace Go.Proofs.Ytjeeakhgjcbhaaa
open Go.RowKit Go.Proofs.YtjeeakhgjcbhaaaW.PrintWords
namespace Vl
inductive Val where
  | mk (kind int : Int) (str : ByteArray) (list : List Val) (dict : List (ByteArray × Val)) : Val
namespace Val
def kind : Val → Int | mk k _ _ _ _ => k
def int : Val → Int | mk _ i _ _ _ => i
def str : Val → ByteArray | mk _ _ s _ _ => s
def list : Val → List Val | mk _ _ _ l _ => l
def dict : Val → List (ByteArray × Val) | mk _ _ _ _ d => d
def parts (v : Val) : Int × Int × ByteArray × List Val × List (ByteArray × Val) := (v.kind, v.int, v.str, v.list, v.dict)
end Val
def zeroV : Val := .mk 0 0 ByteArray.empty [] []
def KVF (d : Kd Val) : Kd Val := Kd.iso (Kd.pair (Kd.int .i64) (Kd.pair (Kd.int .i64) (Kd.pair Kd.string (Kd.pair (Kd.slice 124 d) (Kd.slice 126 (Kd.pair Kd.string d)))))) Val.parts
def EV : List Nat := [124, 126]
theorem KVF_sz (d : Kd Val) : (KVF d).sz = 5 := rfl
theorem KVF_mono : Kd.Mono KVF :=
  Kd.mono_iso _ (Kd.mono_pair (Kd.mono_const _) (Kd.mono_pair (Kd.mono_const _) (Kd.mono_pair (Kd.mono_const _) (Kd.mono_pair (Kd.mono_slice _ Kd.mono_id) (Kd.mono_slice _ (Kd.mono_pair (Kd.mono_const _) Kd.mono_id))))))
theorem KVF_sub : Kd.Sub KVF EV :=
  Kd.sub_iso _ (Kd.sub_pair (Kd.sub_const _ (by intro q hq; cases hq)) (Kd.sub_pair (Kd.sub_const _ (by intro q hq; cases hq)) (Kd.sub_pair (Kd.sub_const _ (by intro q hq; cases hq)) (Kd.sub_pair (Kd.sub_slice _ (by simp [EV]) Kd.sub_id) (Kd.sub_slice _ (by simp [EV]) (Kd.sub_pair (Kd.sub_const _ (by intro q hq; cases hq)) Kd.sub_id))))))
theorem uptoV_sz (n : Nat) : (Kd.upto KVF 5 EV n).sz = 5 := Kd.upto_sz KVF_sz n
/-- A value. -/
def KV : Kd Val := Kd.fix KVF 5 EV uptoV_sz (Kd.upto_E KVF_sub)
/-- A pair. -/
def KPr : Kd (ByteArray × Val) := Kd.pair Kd.string KV
theorem KPr_sz : KPr.sz = 6 := rfl
theorem upto_pair_C {n : Nat} {w : World} {A : Option Addr} {m : Nat} {xs : List (ByteArray × Val)} (h : (Kd.pair Kd.string (Kd.upto KVF 5 EV n)).C w A m xs) : KPr.C w A m xs :=
  Kd.C_imp (d' := KPr) (by show 1 + (Kd.upto KVF 5 EV n).sz = 6; rw [uptoV_sz]) (fun w x cs hp => by
    obtain ⟨c0, c1, rfl, h0, h1⟩ := hp
    exact ⟨c0, c1, rfl, h0, n, h1⟩) h
/-- The cells of a value that is read. -/
theorem KV_open {w : World} {v : Val} {cs : List Value} (h : KV.K w v cs) :
    ∃ A c A' c', cs = [.int .i64 v.kind, .int .i64 v.int, .string v.str, .slice A v.list.length c, .slice A' v.dict.length c'] ∧ v.list.length ≤ c ∧ v.dict.length ≤ c' ∧ KV.C w A v.list.length v.list ∧ KPr.C w A' v.dict.length v.dict := by
  obtain ⟨n, h⟩ := h
  cases n with
  | zero => exact h.elim
  | succ n =>
    obtain ⟨c0, r0, rfl, h0, c1, r1, rfl, h1, c2, r2, rfl, h2, c3, r3, rfl, ⟨A, c, rfl, hc, hl⟩, A', c', rfl, hc', hd⟩ := h
    have e0 : c0 = [Value.int .i64 v.kind] := h0
    have e1 : c1 = [Value.int .i64 v.int] := h1
    have e2 : c2 = [Value.string v.str] := h2
    subst e0 e1 e2
    exact ⟨A, c, A', c', rfl, hc, hc', Kd.fix_C hl, upto_pair_C hd⟩
/-- Value k of a row that is read. -/
theorem at_val {w : World} {A : Option Addr} {m : Nat} {xs : List Val} (h : KV.C w A m xs) (k : Nat) (hk : k < m) :
    ∃ ad cs, A = some ad ∧ cs.length = 5 ∧ KV.K w (xs.getD k zeroV) cs ∧ ∀ j u, cs[j]? = some u → w.cell? (ad.add (k * 5 + j)) = some u := by
  obtain ⟨ad, c, e, hl, hK, hc⟩ := Kd.C_get h zeroV (k : Int) (by omega) (by omega)
  exact ⟨ad, c, e, hl, hK, fun j u hj => hc j u hj⟩
/-- Pair k of a row that is read. -/
theorem at_pair {w : World} {A : Option Addr} {m : Nat} {xs : List (ByteArray × Val)} (h : KPr.C w A m xs) (k : Nat) (hk : k < m) :
    ∃ ad cs, A = some ad ∧ cs.length = 5 ∧ w.cell? (ad.add (k * 6)) = some (.string (xs.getD k (ByteArray.empty, zeroV)).1) ∧ KV.K w (xs.getD k (ByteArray.empty, zeroV)).2 cs ∧ ∀ j u, cs[j]? = some u → w.cell? (ad.add (k * 6 + (1 + j))) = some u := by
  obtain ⟨ad, c, e, hl, ⟨c0, c1, rfl, h0, h1⟩, hc⟩ := Kd.C_get h (ByteArray.empty, zeroV) (k : Int) (by omega) (by omega)
  have e0 : c0 = [Value.string (xs.getD k (ByteArray.empty, zeroV)).1] := h0
  subst e0
  refine ⟨ad, c1, e, KV.K_len h1, ?_, h1, fun j u hj => ?_⟩
  · have := hc 0 _ rfl
    rw [KPr_sz] at this
    simpa using this
  · have := hc (1 + j) u (by rw [show 1 + j = j + 1 by omega]; exact hj)
    rw [KPr_sz] at this
    simpa using this
end Vl
end Go.Proofs.Ytjeeakhgjcbhaaa
set_option linter.unusedVariables false
set_option linter.unusedSimpArgs false
namespace Go.Proofs.Ytjeeakhgjcbhaaa
open Go.ChangeShapes Go.WideShapes Go.ChangeAt Go.RowKit Go.Proofs.YtjeeakhgjcbhaaaW.PrintWords
namespace Rw
/-- 'Opens', for data up to a size. -/
def OpensN (P : Program) (N : Nat) (t : TypeId) {α : Type} (k : Kd α) (G : α → Prop) : Prop :=
  ∀ {H : Type} {enc : TypeId × Value → H} {w : World} {base : Nat} {spare : Nat → Bool} {held : Bool} {fuel : Nat} {cs : List Value} {d : DataW H} {pl : List MemPlace},
    DataW.trod enc P w base spare held fuel t cs = some (d, pl) → (∀ n ∈ d.weights P t, n ≤ reachBytes) → SizeOf.sizeOf d ≤ N → ∃ x, k.K w x cs ∧ G x
section
variable {P : Program} {t e : TypeId}
theorem opensN_of {α : Type} {k : Kd α} {G : α → Prop} (h : Opens P t k G) (N : Nat) : OpensN P N t k G := fun ht hz _ => h ht hz
theorem opens_ofN {α : Type} {k : Kd α} {G : α → Prop} (h : ∀ N, OpensN P N t k G) : Opens P t k G := fun ht hz => h _ ht hz (Nat.le_refl _)
theorem opensN_slice {α : Type} {k : Kd α} {G : α → Prop} {N : Nat} (hu : P.underlying t = some (.slice e)) (hk : k.sz = P.cellsOf e) (he : OpensN P N e k G) :
    OpensN P (N + 1) t (Kd.slice e k) (fun xs => xs.length * P.bytesOf e ≤ reachBytes ∧ ∀ x ∈ xs, G x) := by
  intro H enc w base spare held fuel cs d pl h hz hN
  rcases Deep.open_slice hu h with ⟨rfl, hx⟩ | ⟨a, len, cap, m, n, D, Pl, rfl, hb, hl, hm, hmm, hx, hel⟩
  · exact ⟨[], ⟨none, 0, rfl, Nat.le_refl _, Kd.C_nil _ _⟩, by simp, by simp⟩
  · simp only [Prod.mk.injEq] at hx
    obtain ⟨rfl, rfl⟩ := hx
    have hlm : len ≤ m := by rw [hmm]; split <;> omega
    have hs : ∀ i, i < len → SizeOf.sizeOf (D i) ≤ N := fun i hi => by
      have := List.sizeOf_lt_of_mem (List.mem_map.2 ⟨i, List.mem_range.2 hi, rfl⟩ : D i ∈ (List.range len).map D)
      simp only [DataW.slice.sizeOf_spec] at hN
      omega
    have hz1 : ∀ i, i < len → ∀ q ∈ (D i).weights P e, q ≤ reachBytes := fun i hi q hq => hz q (by
      simp only [DataW.weights, hu, List.mem_cons, List.mem_append]
      exact .inr (.inl (weightsAll_mem (List.mem_map.2 ⟨i, List.mem_range.2 hi, rfl⟩) q hq)))
    have hz0 := hz (((List.range len).map D).length + ((List.range (m - len)).map fun j => D (len + j)).length |>.mul (P.bytesOf e)) (by
      simp only [DataW.weights, hu, List.mem_cons]
      exact .inl rfl)
    have key : ∀ i, i < len → ∃ x, (∃ c, c.length = k.sz ∧ k.K w x c ∧ ∀ q u, c[q]? = some u → w.cell? (a.add (i * k.sz + q)) = some u) ∧ G x := fun i hi => by
      obtain ⟨cs', hc1, hc2⟩ := hel i (by omega)
      obtain ⟨x, hK, hG⟩ := he hc2 (hz1 i hi) (hs i hi)
      refine ⟨x, ⟨cs', k.K_len hK, hK, fun q u hq => ?_⟩, hG⟩
      obtain ⟨_, hlen, hcell⟩ := World.cells?_some hc1
      rw [← hk] at hcell
      have hq' : q < cs'.length := (List.getElem?_eq_some_iff.1 hq).1
      have := hcell q (by rw [← k.K_len hK]; exact hq')
      rw [Deep.add_add] at this
      rw [this, ← hq]
    obtain ⟨xs, hxl, hx⟩ := pick_list len key
    subst hxl
    refine ⟨xs, ⟨some a, cap, rfl, hl, rfl, by unfold maxLen at hm; omega, fun hp => ⟨a, rfl, fun j p hj => ?_⟩⟩, ?_, fun y hm => ?_⟩
    · obtain ⟨hj', rfl⟩ := List.getElem?_eq_some_iff.1 hj
      exact (hx j hj').1
    · simp only [List.length_map, List.length_range, Nat.mul_eq] at hz0
      exact Nat.le_trans (Nat.mul_le_mul_right _ (Nat.le_add_right _ _)) hz0
    · obtain ⟨i, hi, rfl⟩ := List.getElem_of_mem hm
      exact (hx i hi).2
def OpensFN (P : Program) (N : Nat) (fs : List Field) (off : Nat) {α : Type} (k : Kd α) (G : α → Prop) : Prop :=
  ∀ {H : Type} {enc : TypeId × Value → H} {w : World} {base : Nat} {spare : Nat → Bool} {held : Bool} {n : Nat} {cs : List Value} {xs : List (DataW H × List MemPlace)},
    xs.length = fs.length → (∀ (j : Nat) (f : Field), fs[j]? = some f → DataW.trod enc P w base spare held n f.type ((cs.drop f.offset).take (P.cellsOf f.type)) = xs[j]?) →
    (∀ q ∈ DataW.weightsEach P (fs.map (·.type)) (xs.map (·.1)), q ≤ reachBytes) → (∀ x ∈ xs, SizeOf.sizeOf x.1 ≤ N) → cs.length = off + k.sz → ∃ x, k.K w x (cs.drop off) ∧ G x
theorem opensFN_one {α : Type} {k : Kd α} {G : α → Prop} {f : Field} {off N : Nat} (hf : f.offset = off) (hk : k.sz = P.cellsOf f.type) (h : OpensN P N f.type k G) : OpensFN P N [f] off k G := by
  intro H enc w base spare held n cs xs hl hx hz hN hcs
  match xs, hl with
  | [x], _ =>
    have h1 := hx 0 f rfl
    rw [hf, ← hk, List.take_of_length_le (by rw [List.length_drop]; omega)] at h1
    exact h (d := x.1) (pl := x.2) h1 (fun q hq => hz q (by simp [DataW.weightsEach, hq])) (hN x (List.mem_cons_self ..))
theorem opensFN_cons {α β : Type} {k : Kd α} {G : α → Prop} {k' : Kd β} {G' : β → Prop} {f : Field} {fs : List Field} {off N : Nat} (hf : f.offset = off) (hk : k.sz = P.cellsOf f.type) (h : OpensN P N f.type k G) (hfs : OpensFN P N fs (off + k.sz) k' G') :
    OpensFN P N (f :: fs) off (Kd.pair k k') (fun x => G x.1 ∧ G' x.2) := by
  intro H enc w base spare held n cs xs hl hx hz hN hcs
  match xs, hl with
  | x :: xs, hl =>
    have h1 := hx 0 f rfl
    rw [hf, ← hk] at h1
    have hsz : (Kd.pair k k').sz = k.sz + k'.sz := rfl
    rw [hsz] at hcs
    obtain ⟨y, hK, hG⟩ := h (d := x.1) (pl := x.2) h1 (fun q hq => hz q (by simp [DataW.weightsEach, hq])) (hN x (List.mem_cons_self ..))
    obtain ⟨z, hK', hG'⟩ := hfs (cs := cs) (xs := xs) (by simpa using hl) (fun j g hj => hx (j + 1) g hj) (fun q hq => hz q (by simp [DataW.weightsEach, hq])) (fun x hx => hN x (List.mem_cons_of_mem _ hx)) (by omega)
    refine ⟨(y, z), ⟨(cs.drop off).take k.sz, cs.drop (off + k.sz), ?_, hK, hK'⟩, hG, hG'⟩
    rw [← List.drop_drop, List.take_append_drop]
theorem opensN_struct {α : Type} {k : Kd α} {G : α → Prop} {fs : Array Field} {N : Nat} (hu : P.underlying t = some (.struct fs)) (hct : P.cellsOf t = k.sz) (h : OpensFN P N fs.toList 0 k G) : OpensN P (N + 1) t k G := by
  intro H enc w base spare held fuel cs d pl ht hz hN
  obtain ⟨xs, n, _, hx, hl, hxl, hf⟩ := DataW.trod_struct hu ht
  simp only [Prod.mk.injEq] at hx
  obtain ⟨rfl, rfl⟩ := hx
  have := h (cs := cs) (xs := xs) (by simpa using hxl) (fun j f hj => hf j f (by simpa using hj)) (fun q hq => hz q (by simp only [DataW.weights, hu]; exact hq)) (fun x hx => by
    have := List.sizeOf_lt_of_mem (List.mem_map.2 ⟨x, hx, rfl⟩ : x.1 ∈ xs.map (·.1))
    simp only [DataW.agg.sizeOf_spec] at hN
    omega) (by omega)
  rwa [List.drop_zero] at this
theorem opensN_map {α β : Type} {k : Kd α} {G : α → Prop} {k' : Kd β} {G' : β → Prop} {N : Nat} (h : OpensN P N t k G) (hm : ∀ w x cs, k.K w x cs → G x → ∃ y, k'.K w y cs ∧ G' y) : OpensN P N t k' G' := by
  intro H enc w base spare held fuel cs d pl ht hz hN
  obtain ⟨x, hK, hG⟩ := h ht hz hN
  exact hm w x cs hK hG
theorem opensN_le {α : Type} {k : Kd α} {G : α → Prop} {N M : Nat} (h : OpensN P N t k G) (hle : M ≤ N) : OpensN P M t k G := fun ht hz hN => h ht hz (Nat.le_trans hN hle)
end
open Vl
theorem opensN_value (N : Nat) : OpensN Try.prog N 124 (Kd.upto KVF 5 EV N) (fun _ => True) := by
  induction N with
  | zero =>
    intro H enc w base spare held fuel cs d pl ht hz hN
    cases d <;> simp at hN
  | succ N ih =>
    refine opensN_map (opensN_le (opensN_struct (N := N) Try.underlying124 (by kernel_rfl)
      (opensFN_cons rfl (by kernel_rfl) (opensN_of (opens_int Try.underlying3) _) (opensFN_cons rfl (by kernel_rfl) (opensN_of (opens_int Try.underlying3) _) (opensFN_cons rfl (by kernel_rfl) (opensN_of (opens_string Try.underlying9) _)
        (opensFN_cons rfl (by kernel_rfl) (opensN_le (opensN_slice (N := N) Try.underlying122 (by rw [uptoV_sz]; kernel_rfl) ih) (by omega))
          (opensFN_one rfl (by kernel_rfl) (opensN_le (opensN_slice (N := N) Try.underlying26 (by show 1 + (Kd.upto KVF 5 EV N).sz = _; rw [uptoV_sz]; kernel_rfl)
            (opensN_le (opensN_struct (N := N) Try.underlying126 (by show _ = 1 + (Kd.upto KVF 5 EV N).sz; rw [uptoV_sz]; kernel_rfl) (opensFN_cons rfl (by kernel_rfl) (opensN_of (opens_string Try.underlying9) _) (opensFN_one rfl (by rw [uptoV_sz]; kernel_rfl) ih))) (by omega))) (by omega)))))))) (by omega)) ?_
    rintro w ⟨k, i, s, l, d⟩ cs hK _
    exact ⟨.mk k i s l d, hK, trivial⟩
theorem opens_value : Opens Try.prog 124 KV (fun _ => True) := by
  intro H enc w base spare held fuel cs d pl ht hz
  obtain ⟨x, hK, _⟩ := opensN_value (SizeOf.sizeOf d) ht hz (Nat.le_refl _)
  exact ⟨x, ⟨_, hK⟩, trivial⟩
theorem opens_pair : Opens Try.prog 126 KPr (fun x => x.1.size ≤ reachBytes ∧ True) :=
  opens_struct Try.underlying126 (by kernel_rfl) (opensF_cons rfl (by kernel_rfl) (opens_string Try.underlying9) (opensF_one rfl (by kernel_rfl) opens_value))
end Rw
end Go.Proofs.Ytjeeakhgjcbhaaa
set_option linter.unusedVariables false
set_option linter.unusedSimpArgs false
namespace Go.Proofs.Ytjeeakhgjcbhaaa
open Go.RowKit Go.Proofs.YtjeeakhgjcbhaaaW.PrintWords
namespace Fl
/-- A struct of numbers and bools: its cells are told by enc. -/
def flat {α : Type} (enc : α → List Value) (n : Nat) (hn : ∀ x, (enc x).length = n) (h1 : ∀ x, ∀ u ∈ enc x, u.oneCell' = true) : Kd α where
  sz := n
  E := []
  K := fun _ x cs => cs = enc x
  M := fun _ _ _ x cs => cs = enc x
  K_len := fun h => by rw [h]; exact hn _
  K_one := fun h u hu => by rw [h] at hu; exact h1 _ u hu
  K_below := fun _ h => h
  K_of_M := fun h => h
  M_mono := fun _ h => h
  M_bound := fun h => h
  M_move := fun _ h => h
  M_lower := fun _ h => h
section
variable {α : Type} {enc : α → List Value} {n : Nat} {hn : ∀ x, (enc x).length = n} {h1 : ∀ x, ∀ u ∈ enc x, u.oneCell' = true}
/-- Struct k of a row that is read. -/
theorem at_flat {w : World} {A : Option Addr} {m : Nat} {xs : List α} (d : α) (h : (flat enc n hn h1).C w A m xs) (k : Nat) (hk : k < m) :
    ∃ ad, A = some ad ∧ ∀ j u, (enc (xs.getD k d))[j]? = some u → w.cell? (ad.add (k * n + j)) = some u := by
  obtain ⟨ad, c, e, _, hK, hc⟩ := Kd.C_get h d (k : Int) (by omega) (by omega)
  obtain rfl : c = enc (xs.getD k d) := hK
  exact ⟨ad, e, fun j u hj => hc j u hj⟩
end
/-- A field's cell, as a walk spells its address. -/
theorem fcell {w : World} {ad : Addr} {i : Nat} (j : Nat) (hj : j ≠ 0) {u : Value} (h : w.cell? (ad.add (i + j)) = some u) : w.cell? ⟨(ad.add i).block, (ad.add i).off + j, none⟩ = some u := by
  rw [← Go.Deep.add_add] at h
  unfold Addr.add at h ⊢
  rw [if_neg hj] at h
  exact h
/-- A whole struct that lies in memory is loaded. -/
theorem run_load {P : Program} {w : World} {ad : Addr} {ty : TypeId} {cs : List Value} {d : TypeDesc} (hc : ∀ j v, cs[j]? = some v → w.cell? (ad.add j) = some v)
    (hu : P.underlying ty = some d) (hd : d.isRow = true) (hi : (P.info? ty).map (·.size) = some cs.length) : (Instr.loadAt ty (.pointer (some ad))).run P w = .ok (.agg cs.toArray) w := by
  have hl : (loadCells ad cs.length).run P w = .ok cs.toArray w := run_loadCells_list (P := P) w ad cs hc
  cases hq : P.info? ty with
  | none => simp [hq] at hi
  | some i =>
    have hs : i.size = cs.length := by simpa [hq] using hi
    have hagg : (isAgg ty).run P w = .ok true w := by
      unfold isAgg
      rw [Sem.run_bind, run_underlying hu w]
      cases d <;> simp_all
    simp only [Instr.loadAt, Instr.sureAddr, Sem.run_bind, Sem.run_pure, Result.andThen_ok]
    simp [loadVar, Sem.run_bind, hagg, sizeOf, typeInfo, hq, hs, hl]
theorem wpList_load {P : Program} {ops : Array Oper} {rest : List Oper} {op : Oper} {a : Act} {w : World} {Q : Exit → Act → World → Prop} (hgd : op.guard = none) (ty : TypeId) (x : Operand) (ho : op.op = .load ty x)
    (ad : Addr) (hx : a.eval x = .pointer (some ad)) (cs : List Value) (d : TypeDesc) (hc : ∀ j v, cs[j]? = some v → w.cell? (ad.add j) = some v)
    (hu : P.underlying ty = some d) (hd : d.isRow = true) (hi : (P.info? ty).map (·.size) = some cs.length)
    (h : wpList P ops Q rest (a.put op.dst (.agg cs.toArray)) w) : wpList P ops Q (op :: rest) a w :=
  wpList_plain hgd fun _ hK => by
    unfold Oper.wp execOp
    simp only [ho, hx, Sem.run_bind, run_load hc hu hd hi, Sem.run_pure, Result.andThen_ok]
    exact hK _ _ h
/-- In a quiet region: a whole struct is loaded. -/
theorem quiet_load {P : Program} {C : World → Prop} {o : Oper} {a : Act} {K : Act → Prop} (ty : TypeId) (x : Operand) (ho : o.op = .load ty x) (ad : Addr) (hx : a.eval x = .pointer (some ad)) (cs : Array Value)
    (hl : ∀ w, C w → (Instr.loadAt ty (.pointer (some ad))).run P w = .ok (.agg cs) w) (h : K (a.put o.dst (.agg cs))) : o.quiet P a C K :=
  ⟨_, fun w hw => by unfold Oper.quietAt execOp; simp only [ho, hx, Sem.run_bind, hl w hw, Sem.run_pure, Result.andThen_ok]; exact ⟨rfl, rfl⟩, h⟩
/-- In a quiet region: two whole structs are compared. -/
theorem quiet_eql {P : Program} {C : World → Prop} {o : Oper} {a : Act} {K : Act → Prop} (ty r : TypeId) (x y : Operand) (ho : o.op = .binOp .eql ty x y r) (xs ys : Array Value) (hx : a.eval x = .agg xs) (hy : a.eval y = .agg ys) (hm : P.eqGuardType P.depth ty = false) (b : Bool)
    (hl : ∀ w, (Op.equalIn 10000 ty (.agg xs) (.agg ys)).run P w = .ok b w) (h : K (a.put o.dst (.bool b))) : o.quiet P a C K :=
  ⟨_, fun w hw => by
    have h1 := run_eqGuard_agg (P := P) w .eql ty x y xs ys hm
    have h2 := run_eql_struct (P := P) w ty xs ys
    rw [hl w] at h2
    unfold Oper.quietAt execOp
    simp only [ho, hx, hy, Sem.run_bind, h1, h2, Sem.run_pure, Result.andThen_ok]
    exact ⟨rfl, rfl⟩, h⟩
/-- In the still part of a region: a whole struct is loaded; one is built. -/
theorem wpStill_load {P : Program} {ops : Array Oper} {Q : Act → Prop} {rest : List Oper} {o : Oper} {a : Act} {w : World} (hw : Region.wanted o (yielded ops a.tmps) = true) (ty : TypeId) (x : Operand) (ho : o.op = .load ty x) (ad : Addr) (hx : a.eval x = .pointer (some ad)) (cs : Array Value)
    (hl : (Instr.loadAt ty (.pointer (some ad))).run P w = .ok (.agg cs) w) (h : wpStill P ops w Q rest (a.put o.dst (.agg cs))) : wpStill P ops w Q (o :: rest) a := by
  refine wpStill_step fun K hK => ?_
  rw [if_pos hw]
  unfold Oper.still execOp
  simp only [ho, hx, Sem.run_bind, hl, Sem.run_pure, Result.andThen_ok, Oper.stillUpon]
  exact ⟨trivial, hK _ h⟩
theorem wpStill_build {P : Program} {ops : Array Oper} {Q : Act → Prop} {rest : List Oper} {o : Oper} {a : Act} {w : World} (hw : Region.wanted o (yielded ops a.tmps) = true) (t : TypeId) (parts : Array (Nat × Operand)) (ho : o.op = .build t parts) (cells : Array Value) (hf : P.built t (parts.toList.map fun x => (x.1, a.eval x.2)) = some cells)
    (h : wpStill P ops w Q rest (a.put o.dst (.agg cells))) : wpStill P ops w Q (o :: rest) a := by
  have hf' : P.built t (parts.map fun (i, x) => (i, a.eval x)).toList = some cells := by rw [Array.toList_map]; exact hf
  have hr := run_build (P := P) w t (parts.map fun (i, x) => (i, a.eval x)) cells hf'
  refine wpStill_step fun K hK => ?_
  rw [if_pos hw]
  unfold Oper.still execOp
  simp only [ho, Sem.run_bind, hr, Sem.run_pure, Result.andThen_ok, Oper.stillUpon]
  exact ⟨trivial, hK _ h⟩
theorem quiet_neq {P : Program} {C : World → Prop} {o : Oper} {a : Act} {K : Act → Prop} (ty r : TypeId) (x y : Operand) (ho : o.op = .binOp .neq ty x y r) (xs ys : Array Value) (hx : a.eval x = .agg xs) (hy : a.eval y = .agg ys) (hm : P.eqGuardType P.depth ty = false) (b : Bool)
    (hl : ∀ w, (Op.equalIn 10000 ty (.agg xs) (.agg ys)).run P w = .ok b w) (h : K (a.put o.dst (.bool (!b)))) : o.quiet P a C K :=
  ⟨_, fun w hw => by
    have h1 := run_eqGuard_agg (P := P) w .neq ty x y xs ys hm
    have h2 := run_neq_struct (P := P) w ty xs ys
    rw [hl w] at h2
    unfold Oper.quietAt execOp
    simp only [ho, hx, hy, Sem.run_bind, h1, h2, Sem.run_pure, Result.andThen_ok]
    exact ⟨rfl, rfl⟩, h⟩
/-- The operations themselves. -/
theorem exec_load {P : Program} {ρ : Operand → Value} {o : Oper} {w : World} {ty : TypeId} {x : Operand} {ad : Addr} {cs : Array Value} (ho : o.op = .load ty x) (hx : ρ x = .pointer (some ad)) (hl : (Instr.loadAt ty (.pointer (some ad))).run P w = .ok (.agg cs) w) : (execOp ρ o).run P w = .ok (.value (.agg cs)) w := by
  unfold execOp
  simp only [ho, hx, Sem.run_bind, hl, Sem.run_pure, Result.andThen_ok]
theorem exec_build {P : Program} {ρ : Operand → Value} {o : Oper} {w : World} {t : TypeId} {parts : Array (Nat × Operand)} {cells : Array Value} (ho : o.op = .build t parts) (hf : P.built t (parts.toList.map fun x => (x.1, ρ x.2)) = some cells) : (execOp ρ o).run P w = .ok (.value (.agg cells)) w := by
  have hf' : P.built t (parts.map fun (i, x) => (i, ρ x)).toList = some cells := by rw [Array.toList_map]; exact hf
  have hr := run_build (P := P) w t (parts.map fun (i, x) => (i, ρ x)) cells hf'
  unfold execOp
  simp only [ho, Sem.run_bind, hr, Sem.run_pure, Result.andThen_ok]
theorem exec_lit_one {P : Program} {ρ : Operand → Value} {o : Oper} {w : World} {t e : TypeId} {x : Operand} {cs : Array Value} {z : Value} (ho : o.op = .buildSlice t 1 #[(0, x)]) (hx : ρ x = .agg cs) (hu : P.underlying t = some (.slice e)) (hi : (P.info? e).map (fun i => (i.zero, i.size)) = some (some z, cs.size)) (hpos : 0 < cs.size) (hsmall : cs.size ≤ 2 ^ 24) :
    (execOp ρ o).run P w = .ok (.value (.slice (some ⟨w.heap.size, 0, none⟩) 1 1)) (w.alloc (.cells cs e)) := by
  obtain ⟨ie, hie, hzz⟩ := Option.map_eq_some_iff.1 hi
  simp only [Prod.mk.injEq] at hzz
  obtain ⟨hz0, hz1⟩ := hzz
  have hf := Great.fill_whole (s := ie.size) (by omega) [Value.agg cs] ((Array.range (1 * ie.size)).map (z.cells[· % z.cells.size]!)) (by intro v hv; rw [List.mem_singleton.1 hv]; exact hz1.symm) (by simp)
  have hr := run_buildSlice (P := P) w t e 1 (#[(0, x)].map fun (i, x) => (i, ρ x)) cs ie z hu hie hz0 (by omega) (by omega) (by simpa [hx, Value.cells] using hf)
  unfold execOp
  simp only [ho, Sem.run_bind, hr, Sem.run_pure, Result.andThen_ok]
/-- The same for an operation that a guard lets by. -/
theorem wpList_load_w {P : Program} {ops : Array Oper} {rest : List Oper} {op : Oper} {a : Act} {w : World} {Q : Exit → Act → World → Prop} (ty : TypeId) (x : Operand) (ho : op.op = .load ty x) (hw : Region.wanted op (yielded ops a.tmps) = true)
    (ad : Addr) (hx : a.eval x = .pointer (some ad)) (cs : List Value) (d : TypeDesc) (hc : ∀ j v, cs[j]? = some v → w.cell? (ad.add j) = some v)
    (hu : P.underlying ty = some d) (hd : d.isRow = true) (hi : (P.info? ty).map (·.size) = some cs.length)
    (h : wpList P ops Q rest (a.put op.dst (.agg cs.toArray)) w) : wpList P ops Q (op :: rest) a w :=
  wpList_step fun K hK => by
    rw [if_pos hw]
    unfold Oper.wp execOp
    simp only [ho, hx, Sem.run_bind, run_load hc hu hd hi, Sem.run_pure, Result.andThen_ok]
    exact hK _ _ h
theorem wpList_neq_w {P : Program} {ops : Array Oper} {rest : List Oper} {op : Oper} {a : Act} {w : World} {Q : Exit → Act → World → Prop} (ty r : TypeId) (x y : Operand) (ho : op.op = .binOp .neq ty x y r) (hw : Region.wanted op (yielded ops a.tmps) = true)
    (xs ys : Array Value) (hx : a.eval x = .agg xs) (hy : a.eval y = .agg ys) (hm : P.eqGuardType P.depth ty = false) (b : Bool) (hl : (Op.equalIn 10000 ty (.agg xs) (.agg ys)).run P w = .ok b w)
    (h : wpList P ops Q rest (a.put op.dst (.bool (!b))) w) : wpList P ops Q (op :: rest) a w :=
  wpList_step fun K hK => by
    rw [if_pos hw]
    have h1 := run_eqGuard_agg (P := P) w .neq ty x y xs ys hm
    have h2 := run_neq_struct (P := P) w ty xs ys
    rw [hl] at h2
    unfold Oper.wp execOp
    simp only [ho, hx, hy, Sem.run_bind, h1, h2, Sem.run_pure, Result.andThen_ok]
    exact hK _ _ h
theorem exec_alloc {P : Program} {ρ : Operand → Value} {o : Oper} {w : World} {t : TypeId} {zs : Array Value} (ho : o.op = .alloc t) (hi : (P.info? t).map (·.zero) = some (some (.agg zs))) : (execOp ρ o).run P w = .ok (.value (.pointer (some ⟨w.heap.size, 0, none⟩))) (w.alloc (.cells zs t)) := by
  obtain ⟨i, hi0, hz⟩ := Option.map_eq_some_iff.1 hi
  unfold execOp
  simp [ho, Instr.alloc, zeroValue, typeInfo, hi0, hz, newVar, newRow, Value.cells]
theorem exec_store_row {P : Program} {ρ : Operand → Value} {o : Oper} {w : World} {ty : TypeId} {x y : Operand} {g : Nat} {cells old : Array Value} {t : TypeId} (ho : o.op = .store ty x y) (hx : ρ x = .pointer (some ⟨g, 0, none⟩)) (hy : ρ y = .agg cells) (hg : w.heap[g]? = some (.cells old t (0, 0))) (hi : (P.info? ty).map (·.size) = some cells.size) (hold : old.size = cells.size) (h1 : cells.all (·.oneCell') = true) :
    (execOp ρ o).run P w = .ok .skip (w.setRow g cells) := by
  unfold execOp
  simp only [ho, hx, hy, Instr.storeAt, Instr.sureAddr, Sem.run_bind, Sem.run_pure, Result.andThen_ok, run_storeVar_row w g t ty old cells hg hi hold h1]
theorem setRow_fresh (w : World) (t : TypeId) (old cs : Array Value) : (w.alloc (.cells old t)).setRow w.heap.size cs = w.alloc (.cells cs t) := by
  have hh : ((w.alloc (.cells old t)).setRow w.heap.size cs).heap = (w.alloc (.cells cs t)).heap := by
    apply Array.ext_getElem?
    intro k
    by_cases hk : k = w.heap.size
    · subst hk
      rw [setRow_heap _ _ old cs t (0, 0) (heap_alloc_new w _)]
      exact (heap_alloc_new w _).symm
    · rw [setRow_other _ _ _ _ hk]
      show (w.heap.push _)[k]? = (w.heap.push _)[k]?
      rw [Array.getElem?_push, Array.getElem?_push, if_neg hk, if_neg hk]
  unfold World.setRow World.alloc at *
  simp only at *
  rw [hh]
/-- A whole struct is stored into the block that was just made for it. -/
theorem wpList_store_fresh {P : Program} {ops : Array Oper} {rest : List Oper} {o : Oper} {a : Act} {w : World} {Q : Exit → Act → World → Prop} (hgd : o.guard = none) (ty : TypeId) (x y : Operand) (ho : o.op = .store ty x y)
    (t : TypeId) (old : Array Value) (cells : Array Value) (hx : a.eval x = .pointer (some ⟨w.heap.size, 0, none⟩)) (hy : a.eval y = .agg cells) (hi : (P.info? ty).map (·.size) = some cells.size)
    (hold : old.size = cells.size) (h1 : cells.all (·.oneCell') = true)
    (h : wpList P ops Q rest (a.put o.dst undef) (w.alloc (.cells cells t))) : wpList P ops Q (o :: rest) a (w.alloc (.cells old t)) :=
  wpList_store_row hgd ty x y ho w.heap.size cells hx hy t old (heap_alloc_new w _) hi hold h1 (by rw [setRow_fresh]; exact h)
/-- A whole struct is loaded out of the block that was just made for it. -/
theorem wpList_load_fresh {P : Program} {ops : Array Oper} {rest : List Oper} {o : Oper} {a : Act} {w : World} {Q : Exit → Act → World → Prop} (hgd : o.guard = none) (ty : TypeId) (x : Operand) (ho : o.op = .load ty x)
    (t : TypeId) (cells : Array Value) (hx : a.eval x = .pointer (some ⟨w.heap.size, 0, none⟩)) (d : TypeDesc) (hu : P.underlying ty = some d) (hd : d.isRow = true) (hi : (P.info? ty).map (·.size) = some cells.size)
    (h : wpList P ops Q rest (a.put o.dst (.agg cells)) (w.alloc (.cells cells t))) : wpList P ops Q (o :: rest) a (w.alloc (.cells cells t)) :=
  wpList_load_row hgd ty x ho w.heap.size hx t cells (0, 0) d (heap_alloc_new w _) hu (by cases d <;> first | rfl | cases hd) hi h
/-- A struct literal: its cells said by the caller. -/
theorem wpList_build_to {P : Program} {ops : Array Oper} {rest : List Oper} {o : Oper} {a : Act} {w : World} {Q : Exit → Act → World → Prop} (hg : o.guard = none) (t : TypeId) (parts : Array (Nat × Operand)) (ho : o.op = .build t parts)
    (cells : Array Value) (hf : P.built t (parts.toList.map fun x => (x.1, a.eval x.2)) = some cells)
    (h : wpList P ops Q rest (a.put o.dst (.agg cells)) w) : wpList P ops Q (o :: rest) a w := by
  have hf' : P.built t (parts.map fun (i, x) => (i, a.eval x)).toList = some cells := by rw [Array.toList_map]; exact hf
  exact wpList_build hg t parts ho (by rw [hf']; rfl) (by rw [hf']; exact h)
/-- A slice literal of one struct. -/
theorem wpList_lit_one {P : Program} {ops : Array Oper} {rest : List Oper} {o : Oper} {a : Act} {w : World} {Q : Exit → Act → World → Prop} (hg : o.guard = none) (t e : TypeId) (x : Operand) (ho : o.op = .buildSlice t 1 #[(0, x)])
    (cs : Array Value) (hx : a.eval x = .agg cs) (hu : P.underlying t = some (.slice e)) (z : Value) (hi : (P.info? e).map (fun i => (i.zero, i.size)) = some (some z, cs.size)) (hpos : 0 < cs.size) (hsmall : cs.size ≤ 2 ^ 24)
    (h : wpList P ops Q rest (a.put o.dst (.slice (some ⟨w.heap.size, 0, none⟩) 1 1)) (w.alloc (.cells cs e))) : wpList P ops Q (o :: rest) a w := by
  obtain ⟨ie, hie, hzz⟩ := Option.map_eq_some_iff.1 hi
  simp only [Prod.mk.injEq] at hzz
  obtain ⟨hz0, hz1⟩ := hzz
  refine wpList_buildSlice hg t e 1 #[(0, x)] ho cs ie z hu hie hz0 (by omega) (by omega) ?_ h
  have hf := Great.fill_whole (s := ie.size) (by omega) [Value.agg cs] ((Array.range (1 * ie.size)).map (z.cells[· % z.cells.size]!)) (by intro v hv; rw [List.mem_singleton.1 hv]; exact hz1.symm) (by simp)
  simpa [hx, Value.cells] using hf
theorem all_one {cs : List Value} (h : ∀ u ∈ cs, u.oneCell' = true) : cs.toArray.all (·.oneCell') = true := all_oneCell_toArray h
end Fl
end Go.Proofs.Ytjeeakhgjcbhaaa
set_option linter.unusedVariables false
set_option linter.unusedSimpArgs false
namespace Go.Proofs.Ytjeeakhgjcbhaaa
open Go.ChangeShapes Go.WideShapes Go.ChangeAt Go.RowKit Go.Proofs.YtjeeakhgjcbhaaaW.PrintWords
namespace Mt
open Vl
/-- A hash: 32 bytes. -/
structure Hsh where
  z : List Int
  h32 : z.length = 32
  wf : ∀ x ∈ z, (Lit.int .u8 x).wf = true
def encH (h : Hsh) : List Value := h.z.map (.int .u8)
theorem encH_len (h : Hsh) : (encH h).length = 32 := by unfold encH; rw [List.length_map, h.h32]
theorem encH_one (h : Hsh) : ∀ u ∈ encH h, u.oneCell' = true := by
  intro u hu
  obtain ⟨z, _, rfl⟩ := List.mem_map.1 hu
  rfl
def KH : Kd Hsh := Fl.flat encH 32 encH_len encH_one
def h0 : Hsh := ⟨List.replicate 32 0, by simp, fun z hz => by rw [(List.mem_replicate.1 hz).2]; rfl⟩
abbrev FileD := List ByteArray × Int × Hsh × List (ByteArray × Val)
def KFile : Kd FileD := Kd.pair (Kd.slice 9 Kd.string) (Kd.pair (Kd.int .i64) (Kd.pair KH (Kd.slice 126 KPr)))
abbrev LayerD := Hsh × List Hsh
def KLayer : Kd LayerD := Kd.pair KH (Kd.slice 23 KH)
abbrev MetaD := ByteArray × Int × List FileD × List LayerD × List (ByteArray × Val) × List (ByteArray × Val)
def KMeta : Kd MetaD := Kd.pair Kd.string (Kd.pair (Kd.int .i64) (Kd.pair (Kd.slice 93 KFile) (Kd.pair (Kd.slice 96 KLayer) (Kd.pair (Kd.slice 126 KPr) (Kd.slice 126 KPr)))))
theorem KFile_sz : KFile.sz = 35 := rfl
theorem KLayer_sz : KLayer.sz = 33 := rfl
theorem KMeta_sz : KMeta.sz = 6 := rfl
def f0 : FileD := ([], 0, h0, [])
def l0 : LayerD := (h0, [])
/-- The cells of a file. -/
theorem file_open {w : World} {f : FileD} {cs : List Value} (h : KFile.K w f cs) :
    ∃ A c A' c', cs = [.slice A f.1.length c, .int .i64 f.2.1] ++ (encH f.2.2.1 ++ [.slice A' f.2.2.2.length c']) ∧ f.1.length ≤ c ∧ f.2.2.2.length ≤ c' ∧ Kd.string.C w A f.1.length f.1 ∧ KPr.C w A' f.2.2.2.length f.2.2.2 := by
  obtain ⟨q0, r0, rfl, ⟨A, c, rfl, hc, hp⟩, q1, r1, rfl, h1, q2, r2, rfl, h2, A', c', rfl, hc', hm⟩ := h
  have e1 : q1 = [Value.int .i64 f.2.1] := h1
  have e2 : q2 = encH f.2.2.1 := h2
  subst e1 e2
  exact ⟨A, c, A', c', rfl, hc, hc', hp, hm⟩
/-- The cells of a layer. -/
theorem layer_open {w : World} {l : LayerD} {cs : List Value} (h : KLayer.K w l cs) : ∃ A c, cs = encH l.1 ++ [.slice A l.2.length c] ∧ l.2.length ≤ c ∧ KH.C w A l.2.length l.2 := by
  obtain ⟨q0, r0, rfl, h0, A, c, rfl, hc, hp⟩ := h
  have e0 : q0 = encH l.1 := h0
  subst e0
  exact ⟨A, c, rfl, hc, hp⟩
/-- The cells of a metainfo. -/
theorem meta_open {w : World} {m : MetaD} {cs : List Value} (h : KMeta.K w m cs) :
    ∃ AF cF AL cL AI cI AT cT, cs = [.string m.1, .int .i64 m.2.1, .slice AF m.2.2.1.length cF, .slice AL m.2.2.2.1.length cL, .slice AI m.2.2.2.2.1.length cI, .slice AT m.2.2.2.2.2.length cT] ∧
      KFile.C w AF m.2.2.1.length m.2.2.1 ∧ KLayer.C w AL m.2.2.2.1.length m.2.2.2.1 ∧ KPr.C w AI m.2.2.2.2.1.length m.2.2.2.2.1 ∧ KPr.C w AT m.2.2.2.2.2.length m.2.2.2.2.2 := by
  obtain ⟨q0, r0, rfl, h0, q1, r1, rfl, h1, q2, r2, rfl, ⟨AF, cF, rfl, _, hF⟩, q3, r3, rfl, ⟨AL, cL, rfl, _, hL⟩, q4, r4, rfl, ⟨AI, cI, rfl, _, hI⟩, AT, cT, rfl, _, hT⟩ := h
  have e0 : q0 = [Value.string m.1] := h0
  have e1 : q1 = [Value.int .i64 m.2.1] := h1
  subst e0 e1
  exact ⟨AF, cF, AL, cL, AI, cI, AT, cT, rfl, hF, hL, hI, hT⟩
theorem meta_open' {w : World} {m : MetaD} {cs : List Value} (h : KMeta.K w m cs) :
    ∃ AF cF AL cL AI cI AT cT, cs = [.string m.1, .int .i64 m.2.1, .slice AF m.2.2.1.length cF, .slice AL m.2.2.2.1.length cL, .slice AI m.2.2.2.2.1.length cI, .slice AT m.2.2.2.2.2.length cT] ∧
      KFile.C w AF m.2.2.1.length m.2.2.1 ∧ KLayer.C w AL m.2.2.2.1.length m.2.2.2.1 ∧ KPr.C w AI m.2.2.2.2.1.length m.2.2.2.2.1 ∧ KPr.C w AT m.2.2.2.2.2.length m.2.2.2.2.2 ∧
      m.2.2.1.length ≤ cF ∧ m.2.2.2.1.length ≤ cL ∧ m.2.2.2.2.1.length ≤ cI ∧ m.2.2.2.2.2.length ≤ cT := by
  obtain ⟨q0, r0, rfl, h0, q1, r1, rfl, h1, q2, r2, rfl, ⟨AF, cF, rfl, l1, hF⟩, q3, r3, rfl, ⟨AL, cL, rfl, l2, hL⟩, q4, r4, rfl, ⟨AI, cI, rfl, l3, hI⟩, AT, cT, rfl, l4, hT⟩ := h
  have e0 : q0 = [Value.string m.1] := h0
  have e1 : q1 = [Value.int .i64 m.2.1] := h1
  subst e0 e1
  exact ⟨AF, cF, AL, cL, AI, cI, AT, cT, rfl, hF, hL, hI, hT, l1, l2, l3, l4⟩
/-- File k of a row that is read. -/
theorem at_file {w : World} {A : Option Addr} {m : Nat} {xs : List FileD} (h : KFile.C w A m xs) (k : Nat) (hk : k < m) :
    ∃ ad cs, A = some ad ∧ cs.length = 35 ∧ KFile.K w (xs.getD k f0) cs ∧ ∀ j u, cs[j]? = some u → w.cell? (ad.add (k * 35 + j)) = some u := by
  obtain ⟨ad, c, e, hl, hK, hc⟩ := Kd.C_get h f0 (k : Int) (by omega) (by omega)
  exact ⟨ad, c, e, hl, hK, fun j u hj => hc j u hj⟩
theorem at_layer {w : World} {A : Option Addr} {m : Nat} {xs : List LayerD} (h : KLayer.C w A m xs) (k : Nat) (hk : k < m) :
    ∃ ad cs, A = some ad ∧ cs.length = 33 ∧ KLayer.K w (xs.getD k l0) cs ∧ ∀ j u, cs[j]? = some u → w.cell? (ad.add (k * 33 + j)) = some u := by
  obtain ⟨ad, c, e, hl, hK, hc⟩ := Kd.C_get h l0 (k : Int) (by omega) (by omega)
  exact ⟨ad, c, e, hl, hK, fun j u hj => hc j u hj⟩
/-! ### The reading -/
theorem opens_hsh : Rw.Opens Try.prog 23 KH (fun _ => True) :=
  Rw.opens_map (Rw.opens_arr Try.underlying23 (by kernel_rfl) (by kernel_rfl) (by decide) (Rw.opens_int Try.underlying5)) fun w x cs hK hG => by
    obtain ⟨hl, hr⟩ := Kd.arr_cells hK
    exact ⟨⟨x, hl, hG⟩, hr, trivial⟩
def GFile (f : FileD) : Prop := f.1.length * 16 ≤ reachBytes ∧ (Lit.int .i64 f.2.1).wf = true ∧ f.2.2.2.length * 96 ≤ reachBytes
theorem opens_file : Rw.Opens Try.prog 93 KFile GFile :=
  Rw.opens_map (Rw.opens_struct Try.underlying93 (by kernel_rfl) (Rw.opensF_cons rfl (by kernel_rfl) (Rw.opens_slice Try.underlying24 (by kernel_rfl) (Rw.opens_string Try.underlying9)) (Rw.opensF_cons rfl (by kernel_rfl) (Rw.opens_int Try.underlying3) (Rw.opensF_cons rfl (by kernel_rfl) opens_hsh (Rw.opensF_one rfl (by kernel_rfl) (Rw.opens_slice Try.underlying26 (by kernel_rfl) Rw.opens_pair))))))
    fun w x cs hK hG => ⟨x, hK, by
      have b1 : Try.prog.bytesOf 9 = 16 := by kernel_rfl
      have b2 : Try.prog.bytesOf 126 = 96 := by kernel_rfl
      have := hG.1.1
      have := hG.2.2.2.1
      rw [b1] at *
      rw [b2] at *
      exact ⟨by assumption, hG.2.1, by assumption⟩⟩
theorem opens_layer : Rw.Opens Try.prog 96 KLayer (fun l => l.2.length * 32 ≤ reachBytes) :=
  Rw.opens_map (Rw.opens_struct Try.underlying96 (by kernel_rfl) (Rw.opensF_cons rfl (by kernel_rfl) opens_hsh (Rw.opensF_one rfl (by kernel_rfl) (Rw.opens_slice Try.underlying94 (by kernel_rfl) opens_hsh))))
    fun w x cs hK hG => ⟨x, hK, by
      have b1 : Try.prog.bytesOf 23 = 32 := by kernel_rfl
      have := hG.2.1
      rwa [b1] at this⟩
/-- What the reach says of a metainfo. -/
def GMeta (m : MetaD) : Prop := (Lit.int .i64 m.2.1).wf = true ∧ (m.2.2.1.length * 88 ≤ reachBytes ∧ ∀ f ∈ m.2.2.1, GFile f) ∧ (m.2.2.2.1.length * 56 ≤ reachBytes ∧ ∀ l ∈ m.2.2.2.1, l.2.length * 32 ≤ reachBytes)
theorem opens_meta : Rw.Opens Try.prog 46 KMeta GMeta :=
  Rw.opens_map (Rw.opens_struct Try.underlying46 (by kernel_rfl) (Rw.opensF_cons rfl (by kernel_rfl) (Rw.opens_string Try.underlying9) (Rw.opensF_cons rfl (by kernel_rfl) (Rw.opens_int Try.underlying3) (Rw.opensF_cons rfl (by kernel_rfl) (Rw.opens_slice Try.underlying43 (by kernel_rfl) opens_file)
      (Rw.opensF_cons rfl (by kernel_rfl) (Rw.opens_slice Try.underlying44 (by kernel_rfl) opens_layer) (Rw.opensF_cons rfl (by kernel_rfl) (Rw.opens_slice Try.underlying26 (by kernel_rfl) Rw.opens_pair) (Rw.opensF_one rfl (by kernel_rfl) (Rw.opens_slice Try.underlying26 (by kernel_rfl) Rw.opens_pair))))))))
    fun w x cs hK hG => ⟨x, hK, by
      have b1 : Try.prog.bytesOf 93 = 88 := by kernel_rfl
      have b2 : Try.prog.bytesOf 96 = 56 := by kernel_rfl
      obtain ⟨_, g1, ⟨g2, g3⟩, ⟨g4, g5⟩, _⟩ := hG
      rw [b1] at g2
      rw [b2] at g4
      exact ⟨g1, ⟨g2, g3⟩, ⟨g4, g5⟩⟩⟩
end Mt
end Go.Proofs.Ytjeeakhgjcbhaaa
set_option linter.unusedVariables false
set_option linter.unusedSimpArgs false
namespace Go.Proofs.Ytjeeakhgjcbhaaa
open Go.RowKit Go.Proofs.YtjeeakhgjcbhaaaW.PrintWords
namespace Mt
open Vl
/-- A file that is made: its other keys came in. -/
def KFT (W0 : World) : Kd FileD := Kd.pair (Kd.slice 9 Kd.string) (Kd.pair (Kd.int .i64) (Kd.pair KH (Kd.fixed (Kd.slice 126 KPr) W0)))
/-- A metainfo that is made: its other keys came in. -/
def KMT (W0 : World) : Kd MetaD := Kd.pair Kd.string (Kd.pair (Kd.int .i64) (Kd.pair (Kd.slice 93 (KFT W0)) (Kd.pair (Kd.slice 96 KLayer) (Kd.pair (Kd.fixed (Kd.slice 126 KPr) W0) (Kd.fixed (Kd.slice 126 KPr) W0)))))
theorem KFT_sz (W0 : World) : (KFT W0).sz = 35 := rfl
theorem KFT_read {W0 w : World} (hb : Below W0.heap.size W0 w) {f : FileD} {cs : List Value} (h : (KFT W0).K w f cs) : KFile.K w f cs := by
  obtain ⟨q0, r0, rfl, h0, q1, r1, rfl, h1, q2, r2, rfl, h2, h3⟩ := h
  exact ⟨q0, _, rfl, h0, q1, _, rfl, h1, q2, _, rfl, h2, (Kd.slice 126 KPr).K_below hb h3⟩
theorem KFT_readC {W0 w : World} (hb : Below W0.heap.size W0 w) {A : Option Addr} {n : Nat} {xs : List FileD} (h : (KFT W0).C w A n xs) : KFile.C w A n xs :=
  ReadsRow.imp_ h (Below.refl _ _) fun _ _ hp => KFT_read hb hp
theorem KMT_read {W0 w : World} (hb : Below W0.heap.size W0 w) {m : MetaD} {cs : List Value} (h : (KMT W0).K w m cs) : KMeta.K w m cs := by
  obtain ⟨q0, r0, rfl, h0, q1, r1, rfl, h1, q2, r2, rfl, ⟨A, c, rfl, hc, h2⟩, q3, r3, rfl, h3, q4, r4, rfl, h4, h5⟩ := h
  exact ⟨q0, _, rfl, h0, q1, _, rfl, h1, _, _, rfl, ⟨A, c, rfl, hc, KFT_readC hb h2⟩, q3, _, rfl, h3, q4, _, rfl, (Kd.slice 126 KPr).K_below hb h4, (Kd.slice 126 KPr).K_below hb h5⟩
/-- The cells of a file. -/
def encF (v : Value) (len : Int) (root : Hsh) (u : Value) : List Value := [v, .int .i64 len] ++ (encH root ++ [u])
theorem encF_len (v : Value) (len : Int) (root : Hsh) (u : Value) : (encF v len root u).length = 35 := by unfold encF; simp [encH_len]
theorem encF_one {A A' : Option Addr} {n c n' c' : Nat} {len : Int} {root : Hsh} : ∀ x ∈ encF (.slice A n c) len root (.slice A' n' c'), x.oneCell' = true := by
  intro x hx
  unfold encF at hx
  simp only [List.mem_append, List.mem_cons, List.not_mem_nil, or_false] at hx
  rcases hx with (rfl | rfl) | hx | rfl
  · rfl
  · rfl
  · exact encH_one _ _ hx
  · rfl
theorem encF_2 (v : Value) (len : Int) (root : Hsh) (u : Value) (j : Nat) (x : Value) (h : (encH root)[j]? = some x) : (encF v len root u)[2 + j]? = some x := by
  have hj := (List.getElem?_eq_some_iff.1 h).1
  unfold encF
  rw [List.getElem?_append_right (by simp), List.getElem?_append_left (by simp; omega)]
  simpa using h
theorem encF_34 (v : Value) (len : Int) (root : Hsh) (u : Value) : (encF v len root u)[34]? = some u := by
  unfold encF
  rw [List.getElem?_append_right (by simp), List.getElem?_append_right (by rw [encH_len]; simp), encH_len]
  rfl
def encL (root : Hsh) (v : Value) : List Value := encH root ++ [v]
theorem encL_len (root : Hsh) (v : Value) : (encL root v).length = 33 := by unfold encL; simp [encH_len]
theorem encL_32 (root : Hsh) (v : Value) : (encL root v)[32]? = some v := by
  unfold encL
  rw [List.getElem?_append_right (by rw [encH_len]; simp), encH_len]
  rfl
theorem encL_0 (root : Hsh) (v : Value) (j : Nat) (x : Value) (h : (encH root)[j]? = some x) : (encL root v)[j]? = some x := by
  have hj := (List.getElem?_eq_some_iff.1 h).1
  unfold encL
  rw [List.getElem?_append_left hj]
  exact h
theorem built_file32 (A : Option Addr) (n c : Nat) (len : Int) (A' : Option Addr) (n' c' : Nat) (z0 z1 z2 z3 z4 z5 z6 z7 z8 z9 z10 z11 z12 z13 z14 z15 z16 z17 z18 z19 z20 z21 z22 z23 z24 z25 z26 z27 z28 z29 z30 z31 : Int) :
    Try.prog.built 93 [(0, .slice A n c), (1, .int .i64 len), (2, .agg #[.int .u8 z0, .int .u8 z1, .int .u8 z2, .int .u8 z3, .int .u8 z4, .int .u8 z5, .int .u8 z6, .int .u8 z7, .int .u8 z8, .int .u8 z9, .int .u8 z10, .int .u8 z11, .int .u8 z12, .int .u8 z13, .int .u8 z14, .int .u8 z15, .int .u8 z16, .int .u8 z17, .int .u8 z18, .int .u8 z19, .int .u8 z20, .int .u8 z21, .int .u8 z22, .int .u8 z23, .int .u8 z24, .int .u8 z25, .int .u8 z26, .int .u8 z27, .int .u8 z28, .int .u8 z29, .int .u8 z30, .int .u8 z31]), (3, .slice A' n' c')] = some #[.slice A n c, .int .i64 len, .int .u8 z0, .int .u8 z1, .int .u8 z2, .int .u8 z3, .int .u8 z4, .int .u8 z5, .int .u8 z6, .int .u8 z7, .int .u8 z8, .int .u8 z9, .int .u8 z10, .int .u8 z11, .int .u8 z12, .int .u8 z13, .int .u8 z14, .int .u8 z15, .int .u8 z16, .int .u8 z17, .int .u8 z18, .int .u8 z19, .int .u8 z20, .int .u8 z21, .int .u8 z22, .int .u8 z23, .int .u8 z24, .int .u8 z25, .int .u8 z26, .int .u8 z27, .int .u8 z28, .int .u8 z29, .int .u8 z30, .int .u8 z31, .slice A' n' c'] := by kernel_rfl
theorem built_layer32 (A : Option Addr) (n c : Nat) (z0 z1 z2 z3 z4 z5 z6 z7 z8 z9 z10 z11 z12 z13 z14 z15 z16 z17 z18 z19 z20 z21 z22 z23 z24 z25 z26 z27 z28 z29 z30 z31 : Int) :
    Try.prog.built 96 [(0, .agg #[.int .u8 z0, .int .u8 z1, .int .u8 z2, .int .u8 z3, .int .u8 z4, .int .u8 z5, .int .u8 z6, .int .u8 z7, .int .u8 z8, .int .u8 z9, .int .u8 z10, .int .u8 z11, .int .u8 z12, .int .u8 z13, .int .u8 z14, .int .u8 z15, .int .u8 z16, .int .u8 z17, .int .u8 z18, .int .u8 z19, .int .u8 z20, .int .u8 z21, .int .u8 z22, .int .u8 z23, .int .u8 z24, .int .u8 z25, .int .u8 z26, .int .u8 z27, .int .u8 z28, .int .u8 z29, .int .u8 z30, .int .u8 z31]), (1, .slice A n c)] = some #[.int .u8 z0, .int .u8 z1, .int .u8 z2, .int .u8 z3, .int .u8 z4, .int .u8 z5, .int .u8 z6, .int .u8 z7, .int .u8 z8, .int .u8 z9, .int .u8 z10, .int .u8 z11, .int .u8 z12, .int .u8 z13, .int .u8 z14, .int .u8 z15, .int .u8 z16, .int .u8 z17, .int .u8 z18, .int .u8 z19, .int .u8 z20, .int .u8 z21, .int .u8 z22, .int .u8 z23, .int .u8 z24, .int .u8 z25, .int .u8 z26, .int .u8 z27, .int .u8 z28, .int .u8 z29, .int .u8 z30, .int .u8 z31, .slice A n c] := by kernel_rfl
theorem built_file (A : Option Addr) (n c : Nat) (len : Int) (root : Hsh) (A' : Option Addr) (n' c' : Nat) :
    Try.prog.built 93 [(0, .slice A n c), (1, .int .i64 len), (2, .agg (encH root).toArray), (3, .slice A' n' c')] = some (encF (.slice A n c) len root (.slice A' n' c')).toArray := by
  obtain ⟨z, h32, wf⟩ := root
  unfold encF encH
  match z, h32 with
  | [z0, z1, z2, z3, z4, z5, z6, z7, z8, z9, z10, z11, z12, z13, z14, z15, z16, z17, z18, z19, z20, z21, z22, z23, z24, z25, z26, z27, z28, z29, z30, z31], _ => exact built_file32 A n c len A' n' c' z0 z1 z2 z3 z4 z5 z6 z7 z8 z9 z10 z11 z12 z13 z14 z15 z16 z17 z18 z19 z20 z21 z22 z23 z24 z25 z26 z27 z28 z29 z30 z31
theorem built_layer (root : Hsh) (A : Option Addr) (n c : Nat) : Try.prog.built 96 [(0, .agg (encH root).toArray), (1, .slice A n c)] = some (encL root (.slice A n c)).toArray := by
  obtain ⟨z, h32, wf⟩ := root
  unfold encL encH
  match z, h32 with
  | [z0, z1, z2, z3, z4, z5, z6, z7, z8, z9, z10, z11, z12, z13, z14, z15, z16, z17, z18, z19, z20, z21, z22, z23, z24, z25, z26, z27, z28, z29, z30, z31], _ => exact built_layer32 A n c z0 z1 z2 z3 z4 z5 z6 z7 z8 z9 z10 z11 z12 z13 z14 z15 z16 z17 z18 z19 z20 z21 z22 z23 z24 z25 z26 z27 z28 z29 z30 z31
theorem infoF : (Try.prog.info? 93).map (fun i => (i.zero, i.size, i.bytes)) = some (some (.agg (encF (.slice none 0 0) 0 h0 (.slice none 0 0)).toArray), 35, 88) := by kernel_rfl
theorem infoL : (Try.prog.info? 96).map (fun i => (i.zero, i.size, i.bytes)) = some (some (.agg (encL h0 (.slice none 0 0)).toArray), 33, 56) := by kernel_rfl
theorem infoStr : (Try.prog.info? 9).map (fun i => (i.zero, i.size, i.bytes)) = some (some (.string ⟨#[]⟩), 1, 16) := by kernel_rfl
theorem infoH : (Try.prog.info? 23).map (fun i => (i.zero, i.size, i.bytes)) = some (some (.agg (encH h0).toArray), 32, 32) := by kernel_rfl
theorem sizeH (root : Hsh) : (Try.prog.info? 23).map (·.size) = some (encH root).length := by rw [encH_len]; kernel_rfl
theorem sizeF {cs : List Value} (h : cs.length = 35) : (Try.prog.info? 93).map (·.size) = some cs.length := by rw [h]; kernel_rfl
theorem sizeF' {cs : List Value} (h : cs.length = 35) : (Try.prog.info? 93).map (·.size) = some cs.toArray.size := by rw [List.size_toArray, h]; kernel_rfl
theorem zeroF' {cs : List Value} (h : cs.length = 35) : (Try.prog.info? 93).map (fun i => (i.zero, i.size)) = some (some (.agg (encF (.slice none 0 0) 0 h0 (.slice none 0 0)).toArray), cs.toArray.size) := by rw [List.size_toArray, h]; kernel_rfl
theorem zeroL' {cs : List Value} (h : cs.length = 33) : (Try.prog.info? 96).map (fun i => (i.zero, i.size)) = some (some (.agg (encL h0 (.slice none 0 0)).toArray), cs.toArray.size) := by rw [List.size_toArray, h]; kernel_rfl
/-- A file that is made. -/
theorem KFT_mk {W0 w : World} {base : Nat} {ok : Nat → Prop} {f : FileD} {v : Value} {A' : Option Addr} {c' : Nat} (hp : Kd.string.R 9 w base ok v f.1) (hm : KPr.C W0 A' f.2.2.2.length f.2.2.2) (hc : f.2.2.2.length ≤ c') :
    (KFT W0).M w base ok f (encF v f.2.1 f.2.2.1 (.slice A' f.2.2.2.length c')) :=
  ⟨[v], _, rfl, ⟨v, rfl, hp⟩, [.int .i64 f.2.1], _, rfl, rfl, encH f.2.2.1, _, rfl, rfl, A', c', rfl, hc, hm⟩
theorem KL_mk {w : World} {base : Nat} {ok : Nat → Prop} {l : LayerD} {v : Value} (hp : KH.R 23 w base ok v l.2) : KLayer.M w base ok l (encL l.1 v) :=
  ⟨encH l.1, _, rfl, rfl, v, rfl, hp⟩
end Mt
end Go.Proofs.Ytjeeakhgjcbhaaa
set_option linter.unusedVariables false
set_option linter.unusedSimpArgs false
namespace Go.Proofs.Ytjeeakhgjcbhaaa
open Go.RowKit Go.Proofs.YtjeeakhgjcbhaaaW.PrintWords Go.Proofs.YtjeeakhgjcbhaaaW
namespace Mt
open Wd Vl
def fx (xs : List FileD) (k : Nat) : FileD := xs.getD k f0
def ly (xs : List LayerD) (k : Nat) : LayerD := xs.getD k l0
/-- What twinMeta leaves. -/
def TwinR (w : World) (m : MetaD) (e : Ending) (w' : World) : Prop := ∃ cs, e = .returned (.agg cs.toArray) ∧ (KMT w).M w' w.heap.size (fun _ => True) m cs ∧ Below w.heap.size w w'
/-- The three metainfos of the call, and the rows that are filled. -/
structure TS (w : World) (m : MetaD) (AF AL AI AT : Option Addr) (cF cL cI cT : Nat) (fs : List FileD) (ls : List LayerD) (VF VL : Value) (wr : World) : Prop where
  bm : wr.heap[w.heap.size]? = some (.cells #[.string m.1, .int .i64 m.2.1, .slice AF m.2.2.1.length cF, .slice AL m.2.2.2.1.length cL, .slice AI m.2.2.2.2.1.length cI, .slice AT m.2.2.2.2.2.length cT] 46)
  br : wr.heap[w.heap.size + 1]? = some (.cells #[.string ⟨#[]⟩, .int .i64 0, .slice none 0 0, .slice none 0 0, .slice none 0 0, .slice none 0 0] 46 (0, 0))
  bn : wr.heap[w.heap.size + 1 + 1]? = some (.cells #[.string m.1, .int .i64 m.2.1, VF, VL, .slice AI m.2.2.2.2.1.length cI, .slice AT m.2.2.2.2.2.length cT] 46)
  rf : (KFT w).R 93 wr w.heap.size (fun _ => True) VF fs
  rl : KLayer.R 96 wr w.heap.size (fun _ => True) VL ls
  bel : Below w.heap.size w wr
theorem R_other {α β : Type} {d : Kd α} {d' : Kd β} {e e' : Nat} {w w1 : World} {base base' : Nat} {ok ok' : Nat → Prop} {v u : Value} {xs : List α} {ys : List β} (h : d.R e w base ok v xs) (hu : d'.R e' w base' ok' u ys) (hg : w.grownBy w1 u.ownBlock) (hne : ∀ q, q ∈ e :: d.E → q ≠ e') : d.R e w1 base ok v xs :=
  Kd.R_mono (Kd.R_grown (Kd.R_bound h) hg (fun k hk he => by
    obtain ⟨q, hq, cells, hc⟩ := hk.2.2.2
    obtain ⟨cells', hc'⟩ := Kd.R_typed hu k he.symm
    rw [hc] at hc'
    injection hc' with hc'
    injection hc' with _ hc'
    exact hne q hq hc')) (fun k hk => hk.1)
theorem R_sl {α : Type} {d : Kd α} {e : Nat} {w : World} {base : Nat} {ok : Nat → Prop} {v : Value} {xs : List α} (h : d.R e w base ok v xs) : ∃ A n c, v = .slice A n c := by
  obtain ⟨A, c, h⟩ := Kd.R_slice h
  exact ⟨A, _, c, h⟩
theorem KFT_E (w : World) : (KFT w).E = [9] := rfl
theorem R_setRow {α : Type} {d : Kd α} {e : Nat} {w : World} {base : Nat} {ok : Nat → Prop} {v : Value} {xs : List α} {g t : Nat} {old : Array Value} (h : d.R e w base ok v xs) (hb : w.heap[g]? = some (.cells old t (0, 0))) (ht : ∀ q, q ∈ e :: d.E → q ≠ t) (cs : Array Value) : d.R e (w.setRow g cs) base ok v xs :=
  Kd.R_mono (Kd.R_step (Kd.R_bound h) (fun k hk _ => setRow_other w g k cs (by
    rintro rfl
    obtain ⟨q, hq, cells, hc⟩ := hk.2.2.2
    rw [hb] at hc
    injection hc with hc
    injection hc with _ hc
    exact ht q hq hc.symm))) (fun k hk => hk.1)
theorem below_setRow {w W : World} {g : Nat} (h : Below w.heap.size w W) (hg : w.heap.size ≤ g) (cs : Array Value) : Below w.heap.size w (W.setRow g cs) :=
  ⟨h.os, h.tape, h.output, by rw [setRow_size]; exact h.size, fun k hk => (setRow_other W g k cs (by omega)).trans (h.block k hk)⟩
theorem six_one (s : ByteArray) (n : Int) (A B C D : Option Addr) (a b c d a' b' c' d' : Nat) : (#[.string s, .int .i64 n, .slice A a a', .slice B b b', .slice C c c', .slice D d d'] : Array Value).all (·.oneCell') = true :=
  Fl.all_one (cs := [.string s, .int .i64 n, .slice A a a', .slice B b b', .slice C c c', .slice D d d']) (by intro u hu; simp at hu; rcases hu with rfl | rfl | rfl | rfl | rfl | rfl <;> rfl)
section
variable {w wr : World} {m : MetaD} {AF AL AI AT : Option Addr} {cF cL cI cT : Nat} {fs : List FileD} {ls : List LayerD} {VF VL : Value}
theorem TS.below {w1 : World} (h : TS w m AF AL AI AT cF cL cI cT fs ls VF VL wr) (hb : Below wr.heap.size wr w1) : TS w m AF AL AI AT cF cL cI cT fs ls VF VL w1 :=
  ⟨blk_below h.bm hb, blk_below h.br hb, blk_below h.bn hb, Kd.R_below h.rf hb, Kd.R_below h.rl hb, below_step h.bel hb⟩
/-- Behind the append of a file, and its store. -/
theorem TS.file {w2 w3 : World} {f : FileD} {VF1 : Value} (h : TS w m AF AL AI AT cF cL cI cT fs ls VF VL w2) (ho : (KFT w).R 93 w3 w.heap.size (fun _ => True) VF1 (fs ++ [f])) (hb : Below w.heap.size w w3) (hg : w2.grownBy w3 VF.ownBlock) :
    TS w m AF AL AI AT cF cL cI cT (fs ++ [f]) ls VF1 VL (w3.setCell ⟨w.heap.size + 1 + 1, 2, none⟩ VF1) := by
  have n1 : some w.heap.size ≠ VF.ownBlock := Kd.R_ne h.rf h.bm (by decide)
  have n2 : some (w.heap.size + 1) ≠ VF.ownBlock := Kd.R_ne h.rf h.br (by decide)
  have n3 : some (w.heap.size + 1 + 1) ≠ VF.ownBlock := Kd.R_ne h.rf h.bn (by decide)
  have bm := blk_grown h.bm hg n1
  have br := blk_grown h.br hg n2
  have bn := blk_grown h.bn hg n3
  have rl := R_other h.rl h.rf hg (by decide)
  exact ⟨blk_far bm (by show w.heap.size ≠ w.heap.size + 1 + 1; omega) _, blk_far br (by show w.heap.size + 1 ≠ w.heap.size + 1 + 1; omega) _, blk_set bn 2 _, Kd.R_set ho bn (by rw [KFT_E]; decide) 2 _, Kd.R_set rl bn (by decide) 2 _, below_set hb (by omega)⟩
theorem TS.layer {w2 w3 : World} {l : LayerD} {VL1 : Value} (h : TS w m AF AL AI AT cF cL cI cT fs ls VF VL w2) (ho : KLayer.R 96 w3 w.heap.size (fun _ => True) VL1 (ls ++ [l])) (hb : Below w.heap.size w w3) (hg : w2.grownBy w3 VL.ownBlock) :
    TS w m AF AL AI AT cF cL cI cT fs (ls ++ [l]) VF VL1 (w3.setCell ⟨w.heap.size + 1 + 1, 3, none⟩ VL1) := by
  have n1 : some w.heap.size ≠ VL.ownBlock := Kd.R_ne h.rl h.bm (by decide)
  have n2 : some (w.heap.size + 1) ≠ VL.ownBlock := Kd.R_ne h.rl h.br (by decide)
  have n3 : some (w.heap.size + 1 + 1) ≠ VL.ownBlock := Kd.R_ne h.rl h.bn (by decide)
  have bm := blk_grown h.bm hg n1
  have br := blk_grown h.br hg n2
  have bn := blk_grown h.bn hg n3
  have rf := R_other h.rf h.rl hg (by rw [KFT_E]; decide)
  exact ⟨blk_far bm (by show w.heap.size ≠ w.heap.size + 1 + 1; omega) _, blk_far br (by show w.heap.size + 1 ≠ w.heap.size + 1 + 1; omega) _, blk_set bn 3 _, Kd.R_set rf bn (by rw [KFT_E]; decide) 3 _, Kd.R_set ho bn (by decide) 3 _, below_set hb (by omega)⟩
end
set_option maxHeartbeats 4000000 in
set_option maxRecDepth 100000 in
theorem twinMeta_any (m : MetaD) (cs : List Value) (w : World) (hK : KMeta.K w m cs) (hG : GMeta m) :
    Calls Try.prog 18 #[.agg cs.toArray] w (TwinR w m) := by
  obtain ⟨AF, cF, AL, cL, AI, cI, AT, cT, rfl, hF, hL, hI, hT, _, _, l3, l4⟩ := meta_open' hK
  have HL3 := Lib.hid l3
  have HL4 := Lib.hid l4
  have q1 : m.2.2.1.length * 88 ≤ 140737488351232 := hG.2.1.1
  have q2 : m.2.2.2.1.length * 56 ≤ 140737488351232 := hG.2.2.1
  have HG1 : Hid (∀ f ∈ m.2.2.1, GFile f) := Lib.hid hG.2.1.2
  have HG2 : Hid (∀ l ∈ m.2.2.2.1, l.2.length * 32 ≤ reachBytes) := Lib.hid hG.2.2.2
  have HF := Aside0.mk hF
  have HL := Aside0.mk hL
  have HI := Aside0.mk hI
  have HT := Aside0.mk hT
  clear hK hF hL hI hT hG l3 l4
  go_enter Try.func18, Try.ntmps18
  go_wp2
  go_loopw [4] (fun i wr => ∃ k : Nat, k ≤ m.2.2.1.length ∧ i = .int .i64 k ∧ Aside0 (∃ VF, TS w m AF AL AI AT cF cL cI cT (m.2.2.1.take k) [] VF (.slice none 0 0) wr)) (fun i _ => m.2.2.1.length - (intOf i).toNat)
  case atStart =>
    refine ⟨0, by omega, rfl, ⟨.slice none 0 0, ?_⟩⟩
    have b1 : Below w.heap.size w (((w.alloc (.cells #[.string m.1, .int .i64 m.2.1, .slice AF m.2.2.1.length cF, .slice AL m.2.2.2.1.length cL, .slice AI m.2.2.2.2.1.length cI, .slice AT m.2.2.2.2.2.length cT] 46)).alloc (.cells #[.string ⟨#[]⟩, .int .i64 0, .slice none 0 0, .slice none 0 0, .slice none 0 0, .slice none 0 0] 46 (0, 0))).alloc (.cells #[.string m.1, .int .i64 m.2.1, .slice none 0 0, .slice none 0 0, .slice AI m.2.2.2.2.1.length cI, .slice AT m.2.2.2.2.2.length cT] 46)) := below_alloc (below_alloc (below_alloc (Below.refl _ _) _) _) _
    exact ⟨blk_alloc (blk_alloc (heap_alloc_new w _) _) _, blk_alloc (by have := heap_alloc_new (w.alloc (.cells #[.string m.1, .int .i64 m.2.1, .slice AF m.2.2.1.length cF, .slice AL m.2.2.2.1.length cL, .slice AI m.2.2.2.2.1.length cI, .slice AT m.2.2.2.2.2.length cT] 46)) (.cells #[.string ⟨#[]⟩, .int .i64 0, .slice none 0 0, .slice none 0 0, .slice none 0 0, .slice none 0 0] 46 (0, 0)); rwa [World.size_alloc] at this) _, by have := heap_alloc_new ((w.alloc (.cells #[.string m.1, .int .i64 m.2.1, .slice AF m.2.2.1.length cF, .slice AL m.2.2.2.1.length cL, .slice AI m.2.2.2.2.1.length cI, .slice AT m.2.2.2.2.2.length cT] 46)).alloc (.cells #[.string ⟨#[]⟩, .int .i64 0, .slice none 0 0, .slice none 0 0, .slice none 0 0, .slice none 0 0] 46 (0, 0))) (.cells #[.string m.1, .int .i64 m.2.1, .slice none 0 0, .slice none 0 0, .slice AI m.2.2.2.2.1.length cI, .slice AT m.2.2.2.2.2.length cT] 46); rwa [World.size_alloc, World.size_alloc] at this, Kd.R_nil _ _ _ _ _, Kd.R_nil _ _ _ _ _, b1⟩
  case round =>
    obtain ⟨k, hk, rfl, HS⟩ := hrel
    obtain ⟨VF, hs⟩ := HS.out
    have hx2 : wr.cell? ⟨w.heap.size, 2, none⟩ = some (.slice AF m.2.2.1.length cF) := by rw [Go.Joins.cell_of_block hs.bm]; rfl
    by_cases hlt : k < m.2.2.1.length
    · obtain ⟨ad, cs, e0, hl35, hf, hcs⟩ := at_file HF.out k hlt
      rw [e0] at hx2
      clear e0
      have hmem : fx m.2.2.1 k ∈ m.2.2.1 := nth_mem f0 _ k hlt
      have hgf := HG1.out _ hmem
      have HTK : Hid (m.2.2.1.take (k + 1) = m.2.2.1.take k ++ [fx m.2.2.1 k]) := Lib.hid (getD_take _ k f0 hlt)
      have hkl : (m.2.2.1.take k).length = k := by rw [List.length_take]; omega
      change KFile.K w (fx m.2.2.1 k) cs at hf
      generalize fx m.2.2.1 k = f at *
      obtain ⟨Ap, cp, Am, cm, rfl, hcp, hcm, hp, hm⟩ := file_open hf
      have HY : Hid (∀ j u, (encF (.slice Ap f.1.length cp) f.2.1 f.2.2.1 (.slice Am f.2.2.2.length cm))[j]? = some u → wr.cell? ((ad.add (k * 35)).add j) = some u) := Lib.hid fun j u hj => by
        rw [Go.Deep.add_add]
        exact cell_stay hs.bel (hcs j u hj)
      have HP : Aside0 (Kd.string.C (wr.alloc (.cells (encF (.slice Ap f.1.length cp) f.2.1 f.2.2.1 (.slice Am f.2.2.2.length cm)).toArray 93)) Ap f.1.length f.1) := ⟨Kd.C_below hp (below_alloc hs.bel _)⟩
      have HM := Aside0.mk hm
      have HCM := Lib.hid hcm
      have HN35 : Hid (35 = (encF (.slice Ap f.1.length cp) f.2.1 f.2.2.1 (.slice Am f.2.2.2.length cm)).toArray.size) := Lib.hid (by rw [List.size_toArray, encF_len])
      have HS1 : Hid (wr.heap.size + 1 ≤ (wr.alloc (.cells (encF (.slice Ap f.1.length cp) f.2.1 f.2.2.1 (.slice Am f.2.2.2.length cm)).toArray 93)).heap.size) := Lib.hid (by rw [World.size_alloc]; omega)
      have HN35b : Hid (∀ A n c, (encF (.slice A n c) f.2.1 f.2.2.1 (.slice Am f.2.2.2.length cm)).toArray.size = 35) := Lib.hid fun A n c => by rw [List.size_toArray, encF_len]
      have HL2 : Hid (((m.2.2.1.take k).length + 1) * 88 ≤ 140737488355328) := Lib.hid (by rw [hkl]; omega)
      have HL1 : Hid ((([] : List ByteArray).length + f.1.length) * 16 ≤ 140737488355328) := Lib.hid (by have := hgf.1; unfold reachBytes at this; simp; omega)
      have hq0 : (encF (.slice Ap f.1.length cp) f.2.1 f.2.2.1 (.slice Am f.2.2.2.length cm)).toArray[0]? = some (.slice Ap f.1.length cp) := rfl
      have HS0 := Aside0.mk hs
      clear hf hcs hl35 hcp hcm hp hm hs HS hgf hmem
      go_wp2_with (first | ((with_reducible refine Fl.wpList_load rfl 93 (.tmp 28) rfl (ad.add (k * 35)) ?lx (encF (.slice Ap f.1.length cp) f.2.1 f.2.2.1 (.slice Am f.2.2.2.length cm)) _ ?lc Try.underlying93 rfl ?li ?_); (case lx => rfl); (case lc => exact HY.out); (case li => exact (sizeF (encF_len _ _ _ _)))) | ((with_reducible refine Fl.wpList_store_fresh rfl 93 (.tmp 5) (.tmp 29) rfl 93 _ (encF (.slice Ap f.1.length cp) f.2.1 f.2.2.1 (.slice Am f.2.2.2.length cm)).toArray ?sx ?sy ?si ?so ?s1 ?_); (case sx => rfl); (case sy => rfl); (case si => exact (sizeF' (encF_len _ _ _ _))); (case so => exact HN35.out); (case s1 => exact Fl.all_one encF_one)) | (at_builtin; refine Kd.R_append_rows Kd.string (w0 := wr.alloc (.cells (encF (.slice Ap f.1.length cp) f.2.1 f.2.2.1 (.slice Am f.2.2.2.length cm)).toArray 93)) (wr.heap.size + 1) rfl (.tmp 30) (.tmp 32) 24 9 (.string ⟨#[]⟩) 16 rfl Try.underlying24 infoStr rfl (by decide) (by omega) (.slice none 0 0) ([] : List ByteArray) f.1 Ap f.1.length cp (fun _ => True) (fun _ => False) rfl rfl ?aO ?aR (fun _ _ h => h) (fun _ h => h.elim) ?aF ?aB ?aS ?aL ?_; (case aR => exact HP.out); (case aB => exact Below.refl _ _); (case aF => exact (fun _ _ => trivial)); (case aO => exact Kd.R_nil _ _ _ _ _); (case aS => exact HS1.out); (case aL => exact HL1.out); intro v1 w2 ho hb hg hat; rw [List.nil_append] at ho; have HO1 := Aside0.mk ho; have HB1 := Aside0.mk hb; clear ho hb hg hat; obtain ⟨Ao, co, rfl⟩ := Kd.R_slice HO1.out; have hb2 : Below wr.heap.size wr w2 := (below_alloc (Below.refl _ _) _).trans (HB1.out.mono (by omega)); have HS2 := Aside0.mk (HS0.out.below hb2); have hxn : w2.cell? ⟨w.heap.size + 1 + 1, 2, none⟩ = some VF := Go.Joins.cell_of_block HS2.out.bn 2; have HBF := Aside0.mk ((HB1.out.block wr.heap.size (by omega)).trans (heap_alloc_new wr _)); have hf1 : w2.cell? ⟨wr.heap.size, 1, none⟩ = some (.int .i64 f.2.1) := Go.Joins.cell_of_block HBF.out 1; have hf34 : w2.cell? ⟨wr.heap.size, 34, none⟩ = some (.slice Am f.2.2.2.length cm) := (Go.Joins.cell_of_block HBF.out 34).trans (by rw [List.getElem?_toArray]; exact encF_34 _ _ _ _); have HH : Hid (∀ j u, (encH f.2.2.1)[j]? = some u → w2.cell? ((⟨wr.heap.size, 2, none⟩ : Addr).add j) = some u) := Lib.hid (fun j u hj => (by rw [Go.WideShapes.add_plain, Go.Joins.cell_of_block HBF.out, List.getElem?_toArray]; exact encF_2 _ _ _ _ j u hj)); have HSZ := Lib.hid (below_size HS2.out.bel); have HMk : Aside0 ((KFT w).M w2 w.heap.size (fun j => True ∧ some j ≠ VF.ownBlock) f (encF (.slice Ao f.1.length co) f.2.1 f.2.2.1 (.slice Am f.2.2.2.length cm))) := ⟨KFT_mk (Kd.R_lower (Kd.R_mono (Kd.R_bound HO1.out) (fun j hj => ⟨trivial, fun he => (by have := Kd.R_lt HS0.out.rf j he.symm; have := hj.2.1; omega)⟩)) (by have := below_size HS0.out.bel; omega)) HM.out HCM.out⟩; have HRF := Aside0.mk HS2.out.rf; have HBW := Aside0.mk HS2.out.bel; clear hb2 hx2 HO1 HB1 HBF hq0) | ((with_reducible refine Fl.wpList_load rfl 23 (.tmp 39) rfl (⟨wr.heap.size, 2, none⟩) ?lx (encH f.2.2.1) _ ?lc Try.underlying23 rfl ?li ?_); (case lx => rfl); (case lc => exact HH.out); (case li => exact (sizeH _))) | ((with_reducible refine Fl.wpList_build_to rfl 93 _ rfl (encF (.slice Ao f.1.length co) f.2.1 f.2.2.1 (.slice Am f.2.2.2.length cm)).toArray ?bf ?_); (case bf => exact built_file Ao f.1.length co f.2.1 f.2.2.1 Am f.2.2.2.length cm)) | ((with_reducible refine Fl.wpList_lit_one rfl 43 93 (.tmp 43) rfl (encF (.slice Ao f.1.length co) f.2.1 f.2.2.1 (.slice Am f.2.2.2.length cm)).toArray ?tx Try.underlying43 (.agg (encF (.slice none 0 0) 0 h0 (.slice none 0 0)).toArray) ?ti ?tp ?ts ?_); (case tx => rfl); (case ti => exact (zeroF' (encF_len _ _ _ _))); (case tp => (rw [HN35b.out]; omega)); (case ts => (rw [HN35b.out]; omega))) | (at_builtin; refine Kd.R_append (KFT w) (w0 := w) w.heap.size rfl (.tmp 35) (.tmp 44) 43 93 (.agg (encF (.slice none 0 0) 0 h0 (.slice none 0 0)).toArray) 88 rfl Try.underlying43 infoF rfl (by rw [KFT_sz]; omega) (by omega) VF (m.2.2.1.take k) (f) (encF (.slice Ao f.1.length co) f.2.1 f.2.2.1 (.slice Am f.2.2.2.length cm)) (fun _ => True) (fun j => True ∧ some j ≠ VF.ownBlock) rfl rfl ?aP (fun _ h => h) ?aF ?aO ?aB ?aS ?aL ?_; (case aP => exact HMk.out); (case aB => exact HBW.out); (case aF => exact (fun _ _ => trivial)); (case aO => exact HRF.out); (case aS => exact HSZ.out); (case aL => exact HL2.out); intro VF1 w3 ho hb hg hat; have HO3 := Aside0.mk ho; have HB3 := Aside0.mk hb; have HG3 := Lib.hid hg; have hbn3 := blk_grown HS2.out.bn hg (Kd.R_ne HS2.out.rf HS2.out.bn (by omega)); have hcn3 : w3.cell? ⟨w.heap.size + 1 + 1, 2, none⟩ = some VF := Go.Joins.cell_of_block hbn3 2; have hfn3 : w3.frozen? ⟨w.heap.size + 1 + 1, 2, none⟩ = false := Go.Joins.unfrozen_of_block hbn3 2; clear ho hb hg hat hbn3 hxn hf1 hf34; obtain ⟨An, nn, cn, rfl⟩ := R_sl HO3.out))
      have HS3 := Aside0.mk (HS2.out.file HO3.out HB3.out HG3.out)
      rw [← HTK.out] at HS3
      clear HO3 HB3 HG3
      go_roundw
      case rel => exact ⟨k + 1, by omega, by go_num, ⟨_, HS3.out⟩⟩
      case measure => simp [intOf]; omega
    · obtain rfl : k = m.2.2.1.length := by omega
      rw [List.take_length] at hs
      have HS0 := Aside0.mk hs
      clear hs HS
      go_wp2
      go_loopw [7] (fun i wr => ∃ k : Nat, k ≤ m.2.2.2.1.length ∧ i = .int .i64 k ∧ Aside0 (∃ VL, TS w m AF AL AI AT cF cL cI cT m.2.2.1 (m.2.2.2.1.take k) VF VL wr)) (fun i _ => m.2.2.2.1.length - (intOf i).toNat)
      case atStart => exact ⟨0, by omega, rfl, ⟨_, HS0.out⟩⟩
      case round =>
        clear HS0 hx2
        obtain ⟨k, hk, rfl, HS⟩ := hrel
        obtain ⟨VL, hs⟩ := HS.out
        have hx3 : wr.cell? ⟨w.heap.size, 3, none⟩ = some (.slice AL m.2.2.2.1.length cL) := by rw [Go.Joins.cell_of_block hs.bm]; rfl
        by_cases hlt : k < m.2.2.2.1.length
        · obtain ⟨ad, cs, e0, hl33, hf, hcs⟩ := at_layer HL.out k hlt
          have E0 := Lib.hid e0
          rw [e0] at hx3
          clear e0
          have hmem : ly m.2.2.2.1 k ∈ m.2.2.2.1 := nth_mem l0 _ k hlt
          have hgf := HG2.out _ hmem
          have HTK : Hid (m.2.2.2.1.take (k + 1) = m.2.2.2.1.take k ++ [ly m.2.2.2.1 k]) := Lib.hid (getD_take _ k l0 hlt)
          have hkl : (m.2.2.2.1.take k).length = k := by rw [List.length_take]; omega
          change KLayer.K w (ly m.2.2.2.1 k) cs at hf
          generalize ly m.2.2.2.1 k = f at *
          obtain ⟨Ah, ch, rfl, hch, hh⟩ := layer_open hf
          have HY : Hid (∀ w1, Aside0 (Below w.heap.size w w1) → ∀ j u, (encH f.1)[j]? = some u → w1.cell? ((ad.add (k * 33)).add j) = some u) := Lib.hid fun w1 h j u hj => by
            rw [Go.Deep.add_add]
            exact cell_stay h.out (hcs j u (encL_0 _ _ j u hj))
          have hy32 : wr.cell? ⟨(ad.add (k * 33)).block, (ad.add (k * 33)).off + 32, none⟩ = some (.slice Ah f.2.length ch) := cell_stay hs.bel (Fl.fcell 32 (by omega) (hcs 32 _ (encL_32 _ _)))
          have HP : Aside0 (KH.C wr Ah f.2.length f.2) := ⟨Kd.C_below hh hs.bel⟩
          have HL1 : Hid ((([] : List Hsh).length + f.2.length) * 32 ≤ 140737488355328) := Lib.hid (by unfold reachBytes at hgf; simp; omega)
          have HL2 : Hid (((m.2.2.2.1.take k).length + 1) * 56 ≤ 140737488355328) := Lib.hid (by rw [hkl]; omega)
          have HS0 := Aside0.mk hs
          clear hf hcs hl33 hch hh hs HS hgf hmem
          go_wp2_with (at_builtin; refine Kd.R_append_rows KH (w0 := wr) wr.heap.size rfl (.tmp 54) (.tmp 60) 94 23 (.agg (encH h0).toArray) 32 rfl Try.underlying94 infoH rfl (by decide) (by omega) (.slice none 0 0) ([] : List Hsh) f.2 Ah f.2.length ch (fun _ => True) (fun _ => False) rfl rfl ?aO ?aR (fun _ _ h => h) (fun _ h => h.elim) ?aF ?aB ?aS ?aL ?_; (case aR => exact HP.out); (case aB => exact Below.refl _ _); (case aF => exact (fun _ _ => trivial)); (case aO => exact Kd.R_nil _ _ _ _ _); (case aS => exact Nat.le_refl _); (case aL => exact HL1.out); intro v1 w2 ho hb hg hat; rw [List.nil_append] at ho; have HO1 := Aside0.mk ho; have HB1 := Aside0.mk hb; clear ho hb hg hat; obtain ⟨Ao, co, rfl⟩ := Kd.R_slice HO1.out; have HS2 := Aside0.mk (HS0.out.below HB1.out); clear hx3 hy32; have hx3 : w2.cell? ⟨w.heap.size, 3, none⟩ = some (.slice AL m.2.2.2.1.length cL) := Go.Joins.cell_of_block HS2.out.bm 3; rw [E0.out] at hx3; have hxn : w2.cell? ⟨w.heap.size + 1 + 1, 3, none⟩ = some VL := Go.Joins.cell_of_block HS2.out.bn 3; have HBW := Aside0.mk HS2.out.bel)
          have HSD : Aside0 (TS w m AF AL AI AT cF cL cI cT m.2.2.1 (m.2.2.2.1.take k) VF VL w2.drew) := ⟨HS2.out.below (below_drew1 (Below.refl _ _))⟩
          have HO2 : Aside0 (KH.R 23 w2.drew wr.heap.size (fun _ => True) (.slice Ao f.2.length co) f.2) := ⟨Kd.R_below HO1.out (below_drew1 (Below.refl _ _))⟩
          have t1 : w2.drew.cell? ⟨w.heap.size + 1 + 1, 3, none⟩ = some VL := hxn
          have t2 : w2.drew.cell? ⟨w.heap.size, 3, none⟩ = some (.slice (some ad) m.2.2.2.1.length cL) := hx3
          have t3 : Hid (∀ j u, (encH f.1)[j]? = some u → w2.drew.cell? ((ad.add (k * 33)).add j) = some u) := Lib.hid (HY.out _ ⟨below_drew1 HBW.out⟩)
          clear HS2 HO1 HB1 HBW hx3 hxn
          refine PrintLast.start_ (n := 14) (S := fun w' => w'.cell? ⟨w.heap.size + 1 + 1, 3, none⟩ = some VL ∧ w'.cell? ⟨w.heap.size, 3, none⟩ = some (.slice (some ad) m.2.2.2.1.length cL) ∧ Hid (∀ j u, (encH f.1)[j]? = some u → w'.cell? ((ad.add (k * 33)).add j) = some u)) (ds := [11, 13]) #[false, false, false, false, false, false, false, false, false, false, false, false, false, false] (by kernel_rfl) rfl rfl ⟨t1, t2, t3⟩ (fun hHeld => ?_)
          clear t1 t2 t3
          generalize w2.drew = w4 at *
          have HRL := Aside0.mk HSD.out.rl
          have HBD := Aside0.mk HSD.out.bel
          have HSZ := Lib.hid (below_size HSD.out.bel)
          have HMk : Aside0 (KLayer.M w4 w.heap.size (fun j => True ∧ some j ≠ VL.ownBlock) f (encL f.1 (.slice Ao f.2.length co))) := ⟨KL_mk (Kd.R_lower (Kd.R_mono (Kd.R_bound HO2.out) (fun j hj => ⟨trivial, fun he => (by have := Kd.R_lt HS0.out.rl j he.symm; have := hj.2.1; omega)⟩)) (below_size HS0.out.bel))⟩
          clear HO2
          refine PrintLast.pure_ (i := 0) (N := some 62) (v := ?_) (a' := ?_) #[true, false, false, false, false, false, false, false, false, false, false, false, false, false] rfl rfl (by kernel_rfl) (fun _ _ _ h => h) (Or.inl ⟨by rfl, ?_⟩) ?_ ?_
          rotate_left
          · intro w'
            go_simp
            with_reducible rfl
          rotate_left
          · simp only [Act.put, List.setIfInBounds_toArray, List.set_cons_zero, List.set_cons_succ]
            rfl
          refine PrintLast.pure_ (i := 2) (N := some 64) (v := ?_) (a' := ?_) #[true, false, true, false, false, false, false, false, false, false, false, false, false, false] rfl rfl (by kernel_rfl) (fun _ _ _ h => h) (Or.inl ⟨by rfl, ?_⟩) ?_ ?_
          rotate_left
          · intro w'
            go_simp
            with_reducible rfl
          rotate_left
          · simp only [Act.put, List.setIfInBounds_toArray, List.set_cons_zero, List.set_cons_succ]
            rfl
          refine PrintLast.pure_ (i := 4) (N := some 66) (v := ?_) (a' := ?_) #[true, false, true, false, true, false, false, false, false, false, false, false, false, false] rfl rfl (by kernel_rfl) (fun _ _ _ h => h) (Or.inl ⟨by rfl, ?_⟩) ?_ ?_
          rotate_left
          · intro w'
            go_simp
            with_reducible rfl
          rotate_left
          · simp only [Act.put, List.setIfInBounds_toArray, List.set_cons_zero, List.set_cons_succ]
            rfl
          refine PrintLast.pure_ (i := 8) (N := some 70) (v := ?_) (a' := ?_) #[true, false, true, false, true, false, false, false, true, false, false, false, false, false] rfl rfl (by kernel_rfl) (fun _ _ _ h => h) (Or.inl ⟨by rfl, ?_⟩) ?_ ?_
          rotate_left
          · intro w'
            go_simp
            with_reducible rfl
          rotate_left
          · simp only [Act.put, List.setIfInBounds_toArray, List.set_cons_zero, List.set_cons_succ]
            rfl
          refine PrintLast.take_ (i := 1) (N := some 63) (v := ?_) (a' := ?_) #[true, true, true, false, true, false, false, false, true, false, false, false, false, false] rfl rfl (by kernel_rfl) (fun _ _ _ h => h) (Or.inl ⟨by rfl, ?_⟩) hHeld ?_ ?_
          rotate_left
          · rintro w' ⟨s0, s1, s2⟩
            go_simp
            with_reducible rfl
          rotate_left
          · simp only [Act.put, List.setIfInBounds_toArray, List.set_cons_zero, List.set_cons_succ]
            rfl
          refine PrintLast.take_ (i := 3) (N := some 65) (v := ?_) (a' := ?_) #[true, true, true, true, true, false, false, false, true, false, false, false, false, false] rfl rfl (by kernel_rfl) (fun _ _ _ h => h) (Or.inl ⟨by rfl, ?_⟩) hHeld ?_ ?_
          rotate_left
          · rintro w' ⟨s0, s1, s2⟩
            go_simp
            with_reducible rfl
          rotate_left
          · simp only [Act.put, List.setIfInBounds_toArray, List.set_cons_zero, List.set_cons_succ]
            rfl
          refine PrintLast.pure_ (i := 5) (N := some 67) (v := ?_) (a' := ?_) #[true, true, true, true, true, true, false, false, true, false, false, false, false, false] rfl rfl (by kernel_rfl) (fun _ _ _ h => h) (Or.inl ⟨by rfl, ?_⟩) ?_ ?_
          rotate_left
          · intro w'
            go_simp
            with_reducible rfl
          rotate_left
          · simp only [Act.put, List.setIfInBounds_toArray, List.set_cons_zero, List.set_cons_succ]
            rfl
          refine PrintLast.pure_ (i := 6) (N := some 68) (v := ?_) (a' := ?_) #[true, true, true, true, true, true, true, false, true, false, false, false, false, false] rfl rfl (by kernel_rfl) (fun _ _ _ h => h) (Or.inl ⟨by rfl, ?_⟩) ?_ ?_
          rotate_left
          · intro w'
            go_simp
            with_reducible rfl
          rotate_left
          · simp only [Act.put, List.setIfInBounds_toArray, List.set_cons_zero, List.set_cons_succ]
            rfl
          refine PrintLast.take_ (i := 7) (N := some 69) (v := .agg (encH f.1).toArray) (a' := ?_) #[true, true, true, true, true, true, true, true, true, false, false, false, false, false] rfl rfl (by kernel_rfl) (fun _ _ _ h => h) (Or.inl ⟨by rfl, ?_⟩) hHeld ?_ ?_
          skip
          · rintro w' ⟨s0, s1, s2⟩
            exact Fl.exec_load (ty := 23) (x := .tmp 68) (ad := ad.add (k * 33)) (cs := (encH f.1).toArray) (by rfl) (by rfl) (Fl.run_load s2.out Try.underlying23 rfl (sizeH _))
          rotate_left
          · simp only [Act.put, List.setIfInBounds_toArray, List.set_cons_zero, List.set_cons_succ]
            rfl
          refine PrintLast.pure_ (i := 9) (N := some 71) (v := .agg (encL f.1 (.slice Ao f.2.length co)).toArray) (a' := ?_) #[true, true, true, true, true, true, true, true, true, true, false, false, false, false] rfl rfl (by kernel_rfl) (fun _ _ _ h => h) (Or.inl ⟨by rfl, ?_⟩) ?_ ?_
          skip
          · intro w'
            exact Fl.exec_build (t := 96) (cells := (encL f.1 (.slice Ao f.2.length co)).toArray) (by rfl) (by exact built_layer f.1 Ao f.2.length co)
          rotate_left
          · simp only [Act.put, List.setIfInBounds_toArray, List.set_cons_zero, List.set_cons_succ]
            rfl
          refine PrintLast.one_ (i := 10) (N := some 72) #[true, true, true, true, true, true, true, true, true, true, true, false, false, false] rfl rfl (by kernel_rfl) (by decide) (fun K hK => ?_)
          refine PrintLast.value_ (w1 := w4.alloc (.cells (encL f.1 (.slice Ao f.2.length co)).toArray 96)) (v := .slice (some ⟨w4.heap.size, 0, none⟩) 1 1) (by rfl) rfl ?_ ?_
          · exact Fl.exec_lit_one (x := .tmp 71) (cs := (encL f.1 (.slice Ao f.2.length co)).toArray) (by rfl) (by rfl) Try.underlying44 (zeroL' (encL_len _ _)) (by rw [List.size_toArray, encL_len]; omega) (by rw [List.size_toArray, encL_len]; omega)
          refine hK.out _ _ ⟨(cell_stay (below_alloc (Below.refl _ _) _) hHeld.1), (cell_stay (below_alloc (Below.refl _ _) _) hHeld.2.1), Lib.hid fun j u hj => cell_stay (below_alloc (Below.refl _ _) _) (hHeld.2.2.out j u hj)⟩ (fun hHeld => ?_)
          clear hK K
          refine PrintLast.norm_ (a' := ?_) ?_ ?_
          rotate_left
          · show Act.put _ (some 72) _ = _
            simp only [Act.put, List.setIfInBounds_toArray, List.set_cons_zero, List.set_cons_succ]
            rfl
          refine PrintLast.last_ (i := 11) (N := some 73) #[true, true, true, true, true, true, true, true, true, true, true, true, false, false] rfl rfl (by kernel_rfl) (by decide) (fun K hK => ?_)
          (refine Kd.R_append_step KLayer (w0 := w) w.heap.size (by rfl) (.tmp 63) (.tmp 72) 44 96 (.agg (encL h0 (.slice none 0 0)).toArray) 56 rfl Try.underlying44 infoL rfl (by decide) (by omega) VL (m.2.2.2.1.take k) (f) (encL f.1 (.slice Ao f.2.length co)) (fun _ => True) (fun j => True ∧ some j ≠ VL.ownBlock) rfl rfl ?aP (fun _ h => h) ?aF ?aO ?aB ?aS ?aL ?_; (case aP => exact HMk.out); (case aB => exact HBD.out); (case aF => exact (fun _ _ => trivial)); (case aO => exact HRL.out); (case aS => exact HSZ.out); (case aL => exact HL2.out); intro VF1 w3 ho hb hg hat; have HO3 := Aside0.mk ho; have HB3 := Aside0.mk hb; have HG3 := Lib.hid hg; have hbn3 := blk_grown HSD.out.bn hg (Kd.R_ne HSD.out.rl HSD.out.bn (by omega)); have hcn3 : w3.cell? ⟨w.heap.size + 1 + 1, 3, none⟩ = some VL := Go.Joins.cell_of_block hbn3 3; have hfn3 : w3.frozen? ⟨w.heap.size + 1 + 1, 3, none⟩ = false := Go.Joins.unfrozen_of_block hbn3 3; clear ho hb hg hat hbn3; obtain ⟨An, nn, cn, rfl⟩ := R_sl HO3.out)
          refine hK.out _ _ ?_
          clear hK K
          refine PrintLast.norm_ (a' := ?_) ?_ ?_
          rotate_left
          · show Act.put _ (some 73) _ = _
            simp only [Act.put, List.setIfInBounds_toArray, List.set_cons_zero, List.set_cons_succ]
            rfl
          refine PrintLast.pure_ (i := 12) (N := some 74) (v := ?_) (a' := ?_) #[true, true, true, true, true, true, true, true, true, true, true, true, true, false] rfl rfl (by kernel_rfl) (fun _ _ _ h => h) (Or.inl ⟨by rfl, ?_⟩) ?_ ?_
          rotate_left
          · intro w'
            go_simp
            with_reducible rfl
          rotate_left
          · simp only [Act.put, List.setIfInBounds_toArray, List.set_cons_zero, List.set_cons_succ]
            rfl
          refine PrintLast.last_ (i := 13) (N := none) #[true, true, true, true, true, true, true, true, true, true, true, true, true, true] rfl rfl (by kernel_rfl) (by decide) (fun K hK => ?_)
          refine PrintLast.skip_ (w1 := ?_) (by rfl) rfl ?_ ?_
          rotate_left
          · go_simp
            rfl
          refine hK.out _ _ ?_
          clear hK K
          refine PrintLast.done_ (by kernel_rfl) ?_
          go_wp2
          have HS3 := Aside0.mk (HSD.out.layer HO3.out HB3.out HG3.out)
          rw [← HTK.out] at HS3
          clear HO3 HB3 HG3
          go_roundw
          case rel => exact ⟨k + 1, by omega, by go_num, ⟨_, HS3.out⟩⟩
          case measure => simp [intOf]; omega
        · obtain rfl : k = m.2.2.2.1.length := by omega
          rw [List.take_length] at hs
          have HS0 := Aside0.mk hs
          clear hs HS
          have b6 : Below w.heap.size w (wr.setRow (w.heap.size + 1) (#[.string m.1, .int .i64 m.2.1, VF, VL, .slice AI m.2.2.2.2.1.length cI, .slice AT m.2.2.2.2.2.length cT])) := below_setRow HS0.out.bel (by omega) _
          have rf6 := R_setRow HS0.out.rf HS0.out.br (by rw [KFT_E]; decide) (#[.string m.1, .int .i64 m.2.1, VF, VL, .slice AI m.2.2.2.2.1.length cI, .slice AT m.2.2.2.2.2.length cT])
          have rl6 := R_setRow HS0.out.rl HS0.out.br (by decide) (#[.string m.1, .int .i64 m.2.1, VF, VL, .slice AI m.2.2.2.2.1.length cI, .slice AT m.2.2.2.2.2.length cT])
          have hr6 := setRow_heap wr (w.heap.size + 1) _ (#[.string m.1, .int .i64 m.2.1, VF, VL, .slice AI m.2.2.2.2.1.length cI, .slice AT m.2.2.2.2.2.length cT]) 46 (0, 0) HS0.out.br
          have HB6 := Aside0.mk b6
          have HF6 := Aside0.mk rf6
          have HL6 := Aside0.mk rl6
          have HR6 := Aside0.mk hr6
          obtain ⟨A1, n1, c1, e1⟩ := R_sl HS0.out.rf
          obtain ⟨A2, n2, c2, e2⟩ := R_sl HS0.out.rl
          subst e1 e2
          clear b6 rf6 rl6 hr6
          go_wp2_with (first | ((with_reducible refine Fl.wpList_load rfl 46 (.tmp 3) rfl ⟨w.heap.size + 1 + 1, 0, none⟩ ?lx ([.string m.1, .int .i64 m.2.1, .slice A1 n1 c1, .slice A2 n2 c2, .slice AI m.2.2.2.2.1.length cI, .slice AT m.2.2.2.2.2.length cT] : List Value) _ ?lc Try.underlying46 rfl ?li ?_); (case lx => rfl); (case lc => exact fun j v h => (by rw [Go.WideShapes.add_plain, Nat.zero_add, Go.Joins.cell_of_block HS0.out.bn, ← h]; simp)); (case li => kernel_rfl)) | ((with_reducible refine wpList_store_row rfl 46 (.tmp 2) (.tmp 75) rfl (w.heap.size + 1) (#[.string m.1, .int .i64 m.2.1, .slice A1 n1 c1, .slice A2 n2 c2, .slice AI m.2.2.2.2.1.length cI, .slice AT m.2.2.2.2.2.length cT]) ?sx ?sy 46 _ HS0.out.br ?si rfl ?s1 ?_); (case sx => rfl); (case sy => rfl); (case si => kernel_rfl); (case s1 => exact six_one _ _ _ _ _ _ _ _ _ _ _ _ _ _)))
          refine bodyPost_ret (v := .agg (#[.string m.1, .int .i64 m.2.1, .slice A1 n1 c1, .slice A2 n2 c2, .slice AI m.2.2.2.2.1.length cI, .slice AT m.2.2.2.2.2.length cT])) (results_cell_row rfl _ _ (w.heap.size + 1) 46 _ (0, 0) _ rfl HR6.out Try.underlying46 rfl (by kernel_rfl)) rfl ?_
          exact ⟨_, rfl, ⟨[_], _, rfl, rfl, [_], _, rfl, rfl, [_], _, rfl, ⟨_, rfl, HF6.out⟩, [_], _, rfl, ⟨_, rfl, HL6.out⟩, [_], [_], rfl, ⟨AI, cI, rfl, HL3.out, HI.out⟩, ⟨AT, cT, rfl, HL4.out, HT.out⟩⟩, HB6.out⟩
end Mt
end Go.Proofs.Ytjeeakhgjcbhaaa
set_option linter.unusedVariables false
set_option linter.unusedSimpArgs false
namespace Go.Proofs.Ytjeeakhgjcbhaaa
open Go.RowKit Go.Proofs.YtjeeakhgjcbhaaaW.PrintWords
namespace Fl
theorem mapM_some {α β : Type} {f : α → Option β} {g : α → β} : ∀ {l : List α}, (∀ x ∈ l, f x = some (g x)) → l.mapM f = some (l.map g)
  | [], _ => rfl
  | a :: l, h => by
    rw [List.mapM_cons, h a (List.mem_cons_self ..), mapM_some fun x hx => h x (List.mem_cons_of_mem _ hx)]
    rfl
theorem singles {α β : Type} (g : α → β) : ∀ l : List α, (l.map fun x => [g x]).flatten = l.map g
  | [] => rfl
  | a :: l => by simp [singles g l]
/-- An array of numbers. -/
theorem lits_arr {P : Program} {d : Nat} {t e : TypeId} {n : Nat} {k : IntKind} (hu : P.underlying t = some (.array n e)) (he : P.underlying e = some (.int k)) (hce : P.cellsOf e = 1) (hct : P.cellsOf t = n) {zs : List Int} (hl : zs.length = n) (hw : ∀ z ∈ zs, (Lit.int k z).wf = true) :
    P.keyLits (d + 2) t (zs.map (Value.int k)) = some (zs.map (Lit.int k)) := by
  have hm : (List.range n).mapM (fun i => P.keyLits (d + 1) e (((zs.map (Value.int k)).drop (i * P.cellsOf e)).take (P.cellsOf e))) = some ((List.range n).map fun i => [Lit.int k (zs.getD i 0)]) := by
    refine mapM_some fun i hi => ?_
    have hi' : i < zs.length := by rw [hl]; exact List.mem_range.1 hi
    rw [hce, Nat.mul_one, ← List.map_drop, List.drop_eq_getElem_cons hi', List.map_cons, List.take_succ_cons, List.take_zero]
    unfold Program.keyLits
    rw [he]
    simp only
    rw [if_pos ⟨by simp, hw _ (List.getElem_mem hi')⟩]
    simp [List.getD_eq_getElem?_getD, List.getElem?_eq_getElem hi']
  unfold Program.keyLits
  rw [hu]
  simp only
  rw [if_pos (by rw [List.length_map, hl, hct]), hm]
  simp only [Option.map_some, Option.some.injEq]
  rw [singles]
  apply List.ext_getElem
  · simp [hl]
  · intro i h1 h2
    have hi' : i < zs.length := by simpa using h2
    simp [List.getD_eq_getElem?_getD, List.getElem?_eq_getElem hi']
/-- The same struct twice. -/
theorem eql_same {P : Program} {D m : Nat} {t : TypeId} (hk : P.keyTypeAt m t = true) (hm : m ≤ 10000) {x : Value} {ls : List Lit} (hf : x.formed P t = true) (h : P.keyLits D t x.cells.toList = some ls) (w : World) :
    (Op.equalIn 10000 t x x).run P w = .ok true w := by
  obtain ⟨r, hr, hiff⟩ := run_equalIn_deep (P := P) (10000 - m) m t hk w D D x x ls ls hf hf h h
  rw [show 10000 - m + m = 10000 by omega] at hr
  rw [hr, hiff.2 rfl]
/-- Two structs. -/
theorem eql_lits {P : Program} {D m : Nat} {t : TypeId} (hk : P.keyTypeAt m t = true) (hm : m ≤ 10000) {x y : Value} {ls ks : List Lit} (hf : x.formed P t = true) (hg : y.formed P t = true) (h : P.keyLits D t x.cells.toList = some ls) (h' : P.keyLits D t y.cells.toList = some ks) {b : Bool} (hb : b = true ↔ ls = ks) (w : World) :
    (Op.equalIn 10000 t x y).run P w = .ok b w := by
  obtain ⟨r, hr, hiff⟩ := run_equalIn_deep (P := P) (10000 - m) m t hk w D D x y ls ks hf hg h h'
  rw [show 10000 - m + m = 10000 by omega] at hr
  rw [hr]
  congr 1
  rw [Bool.eq_iff_iff]
  exact hiff.trans hb.symm
end Fl
end Go.Proofs.Ytjeeakhgjcbhaaa
set_option linter.unusedVariables false
set_option linter.unusedSimpArgs false
namespace Go.Proofs.Ytjeeakhgjcbhaaa
open Go.RowKit Go.Proofs.YtjeeakhgjcbhaaaW.PrintWords
namespace Mt
open Wd Vl
theorem lits_h (h : Hsh) : Try.prog.keyLits 2 23 (encH h) = some (h.z.map (Lit.int .u8)) := Fl.lits_arr (d := 0) (n := 32) Try.underlying23 Try.underlying5 (by kernel_rfl) (by kernel_rfl) h.h32 h.wf
theorem formed_h (h : Hsh) : (Value.agg (encH h).toArray).formed Try.prog 23 = true := by
  unfold Value.formed; rw [Try.underlying23]; simp only [List.size_toArray, encH_len]; kernel_rfl
theorem lits_inj : ∀ {a b : List Int}, a.map (Lit.int .u8) = b.map (Lit.int .u8) → a = b
  | [], [], _ => rfl
  | [], _ :: _, h => by cases h
  | _ :: _, [], h => by cases h
  | x :: a, y :: b, h => by
    simp only [List.map_cons, List.cons.injEq, Lit.int.injEq, true_and] at h
    rw [h.1, lits_inj h.2]
/-- Two hashes compared. -/
theorem eq_h (a b : Hsh) (w : World) : (Op.equalIn 10000 23 (.agg (encH a).toArray) (.agg (encH b).toArray)).run Try.prog w = .ok (decide (a.z = b.z)) w :=
  Fl.eql_lits (D := 2) (m := 2) (by kernel_rfl) (by omega) (formed_h a) (formed_h b) (by simpa [Value.cells] using lits_h a) (by simpa [Value.cells] using lits_h b) (by rw [decide_eq_true_iff]; exact ⟨fun h => by rw [h], lits_inj⟩) w
theorem eq_hh (a : Hsh) (w : World) : (Op.equalIn 10000 23 (.agg (encH a).toArray) (.agg (encH a).toArray)).run Try.prog w = .ok true w := by
  rw [eq_h]; simp
set_option maxRecDepth 100000 in
theorem rowSame_any (A0 : Option Addr) (c0 : Nat) (A1 : Option Addr) (c1 : Nat) (xs : List Hsh) (w : World) (hr0 : KH.C w A0 xs.length xs) (hr1 : KH.C w A1 xs.length xs) :
    Calls Try.prog 86 #[.slice A0 xs.length c0, .slice A1 xs.length c1] w fun e w' => e = .returned (.bool true) ∧ ∃ q, w' = w.drewN q := by
  have hlen : xs.length ≤ 9223372036854775807 := hr0.2.1
  have HR0 := Aside0.mk hr0
  have HR1 := Aside0.mk hr1
  clear hr0 hr1
  go_enter Try.func86, Try.ntmps86
  go_wp2
  go_loopw [5] (fun i wr => ∃ k m : Nat, k ≤ xs.length ∧ i = .int .i64 k ∧ wr = w.drewN m) (fun i _ => xs.length - (intOf i).toNat)
  case atStart => exact ⟨0, 0, by omega, rfl, rfl⟩
  case round =>
    obtain ⟨k, m, hk, rfl, rfl⟩ := hrel
    by_cases hlt : k < xs.length
    · obtain ⟨ad, e0, hx⟩ := Fl.at_flat h0 HR0.out k hlt
      obtain ⟨bd, e1, hy⟩ := Fl.at_flat h0 HR1.out k hlt
      subst e0 e1
      have R1 : Hid (∀ q, (Instr.loadAt 23 (.pointer (some (ad.add (k * 32))))).run Try.prog ((w.drewN m).drewN q) = .ok (.agg (encH (xs.getD k h0)).toArray) ((w.drewN m).drewN q)) := Lib.hid fun q => Fl.run_load (fun j v hj => by rw [World.cell?_drewN, World.cell?_drewN, Go.Deep.add_add]; exact hx j v hj) Try.underlying23 rfl (sizeH _)
      have R2 : Hid (∀ q, (Instr.loadAt 23 (.pointer (some (bd.add (k * 32))))).run Try.prog ((w.drewN m).drewN q) = .ok (.agg (encH (xs.getD k h0)).toArray) ((w.drewN m).drewN q)) := Lib.hid fun q => Fl.run_load (fun j v hj => by rw [World.cell?_drewN, World.cell?_drewN, Go.Deep.add_add]; exact hy j v hj) Try.underlying23 rfl (sizeH _)
      have HEQ := Lib.hid (eq_hh (xs.getD k h0))
      clear hx hy
      generalize xs.getD k h0 = h at *
      go_wp2_with fail
      refine wp_region_quiet_lit (by kernel_rfl) (by kernel_rfl) ?_
      repeat (first
        | (go_big_quiet_want; (with_reducible refine Fl.quiet_load 23 (.tmp 19) rfl (ad.add (k * 32)) ?qx (encH h).toArray ?ql ?_); (case qx => rfl); (case ql => rintro _ ⟨q, rfl⟩; exact R1.out q); go_simp; go_big_quiet_on)
        | (go_big_quiet_want; (with_reducible refine Fl.quiet_load 23 (.tmp 23) rfl (bd.add (k * 32)) ?qx (encH h).toArray ?ql ?_); (case qx => rfl); (case ql => rintro _ ⟨q, rfl⟩; exact R2.out q); go_simp; go_big_quiet_on)
        | (go_big_quiet_want; (with_reducible refine Fl.quiet_neq 23 23 (.tmp 20) (.tmp 24) rfl (encH h).toArray (encH h).toArray ?qx ?qy (by kernel_rfl) true HEQ.out ?_); (case qx => rfl); (case qy => rfl); go_simp; go_big_quiet_on)
        | go_big_quiet_step (fail))
      refine wpQuiet_nil ?_
      intro _ hw'
      obtain ⟨nq, hw''⟩ := hw'
      subst hw''
      go_wp2
      go_roundw
      case rel => exact ⟨k + 1, m + nq, by omega, by go_num, by first | rfl | rw [World.drewN_drewN]⟩
      case measure => simp [intOf]; omega
    · go_wp2
      go_ret
      exact ⟨rfl, m, rfl⟩
set_option maxRecDepth 100000 in
theorem pathSame_any (A0 : Option Addr) (c0 : Nat) (A1 : Option Addr) (c1 : Nat) (xs : List ByteArray) (w : World) (hr0 : Kd.string.C w A0 xs.length xs) (hr1 : Kd.string.C w A1 xs.length xs) :
    Calls Try.prog 64 #[.slice A0 xs.length c0, .slice A1 xs.length c1] w fun e w' => e = .returned (.bool true) ∧ ∃ q, w' = w.drewN q := by
  have hlen : xs.length ≤ 9223372036854775807 := hr0.2.1
  have HR0 := Aside0.mk hr0
  have HR1 := Aside0.mk hr1
  clear hr0 hr1
  go_enter Try.func64, Try.ntmps64
  go_wp2
  go_loopw [5] (fun i wr => ∃ k m : Nat, k ≤ xs.length ∧ i = .int .i64 k ∧ wr = w.drewN m) (fun i _ => xs.length - (intOf i).toNat)
  case atStart => exact ⟨0, 0, by omega, rfl, rfl⟩
  case round =>
    obtain ⟨k, m, hk, rfl, rfl⟩ := hrel
    by_cases hlt : k < xs.length
    · obtain ⟨ad, e0, hx⟩ := at_str HR0.out k hlt
      obtain ⟨bd, e1, hy⟩ := at_str HR1.out k hlt
      subst e0 e1
      generalize sx xs k = s at *
      have T1 : (s.toList == s.toList) = true := by simp
      have T2 : (s.toList != s.toList) = false := by simp
      go_wp2
      go_quiet (fail)
      go_wp2
      go_roundw
      case rel => exact ⟨k + 1, m + nq, by omega, by go_num, by first | rfl | rw [World.drewN_drewN]⟩
      case measure => simp [intOf]; omega
    · go_wp2
      go_ret
      exact ⟨rfl, m, rfl⟩
end Mt
end Go.Proofs.Ytjeeakhgjcbhaaa
set_option linter.unusedVariables false
set_option linter.unusedSimpArgs false
namespace Go.Proofs.Ytjeeakhgjcbhaaa
open Go.RowKit Go.Proofs.YtjeeakhgjcbhaaaW.PrintWords Go.Proofs.YtjeeakhgjcbhaaaW
namespace Mt
open Wd Vl
def zF : Array Value := (encF (.slice none 0 0) 0 h0 (.slice none 0 0)).toArray
theorem zeroF0 : (Try.prog.info? 93).map (·.zero) = some (some (.agg zF)) := by kernel_rfl
theorem blk_lt {w : World} {i : Nat} {o : Obj} (h : w.heap[i]? = some o) : i < w.heap.size := (Array.getElem?_eq_some_iff.1 h).1
theorem below_allocL {w W : World} (h : Below w.heap.size w W) (o : Obj) : Below w.heap.size w (W.alloc o) := below_alloc h o
theorem zF_hold (v : Value) (len : Int) (root : Hsh) (u : Value) : zF.size = (encF v len root u).toArray.size := (show zF.size = 35 from by kernel_rfl).trans (by rw [List.size_toArray]; exact (encF_len _ _ _ _).symm)
theorem below_setRowL {B : Nat} {w W : World} {g : Nat} (h : Below B w W) (hg : B ≤ g) (cs : Array Value) : Below B w (W.setRow g cs) :=
  ⟨h.os, h.tape, h.output, by rw [setRow_size]; exact h.size, fun k hk => (setRow_other W g k cs (by omega)).trans (h.block k hk)⟩
/-- Without other keys. -/
def Bare (m : MetaD) : Prop := (∀ f ∈ m.2.2.1, f.2.2.2 = []) ∧ m.2.2.2.2.1 = [] ∧ m.2.2.2.2.2 = []
set_option maxHeartbeats 4000000 in
set_option maxRecDepth 100000 in
theorem metaSame_any (m : MetaD) (cs1 cs2 : List Value) (w : World) (hK1 : KMeta.K w m cs1) (hK2 : KMeta.K w m cs2) (hG : GMeta m) (hbare : Bare m) :
    Calls Try.prog 58 #[.agg cs1.toArray, .agg cs2.toArray] w fun e w' => e = .returned (.bool true) ∧ Below w.heap.size w w' := by
  obtain ⟨A1, c1, L1, d1, I1, e1, T1, f1, rfl, hF1, hL1, _, _⟩ := meta_open hK1
  obtain ⟨A2, c2, L2, d2, I2, e2, T2, f2, rfl, hF2, hL2, _, _⟩ := meta_open hK2
  have q1 : m.2.2.1.length * 88 ≤ 140737488351232 := hG.2.1.1
  have q2 : m.2.2.2.1.length * 56 ≤ 140737488351232 := hG.2.2.1
  have HBM : Hid (∀ f ∈ m.2.2.1, f.2.2.2 = []) := Lib.hid hbare.1
  rw [hbare.2.1, hbare.2.2]
  simp only [List.length_nil]
  have HF1 := Aside0.mk hF1
  have HL1 := Aside0.mk hL1
  have HF2 := Aside0.mk hF2
  have HL2 := Aside0.mk hL2
  have N1 : (m.1.toList == m.1.toList) = true := by simp
  have N2 : (m.1.toList != m.1.toList) = false := by simp
  have N3 : (m.2.1 == m.2.1) = true := by simp
  have N4 : (m.2.1 != m.2.1) = false := by simp
  clear hK1 hK2 hF1 hF2 hL1 hL2 hG hbare
  go_enter Try.func58, Try.ntmps58
  go_wp2
  go_loopw [5] (fun i wr => ∃ k : Nat, k ≤ m.2.2.1.length ∧ i = .int .i64 k ∧ Aside0 (wr.heap[w.heap.size]? = some (.cells #[.string m.1, .int .i64 m.2.1, .slice A1 m.2.2.1.length c1, .slice L1 m.2.2.2.1.length d1, .slice I1 0 e1, .slice T1 0 f1] 46)) ∧ Aside0 (wr.heap[w.heap.size + 1]? = some (.cells #[.string m.1, .int .i64 m.2.1, .slice A2 m.2.2.1.length c2, .slice L2 m.2.2.2.1.length d2, .slice I2 0 e2, .slice T2 0 f2] 46)) ∧ Aside0 (Below w.heap.size w wr)) (fun i _ => m.2.2.1.length - (intOf i).toNat)
  case atStart => exact ⟨0, by omega, rfl, ⟨blk_alloc (heap_alloc_new w _) _⟩, ⟨by have := heap_alloc_new (w.alloc (.cells #[.string m.1, .int .i64 m.2.1, .slice A1 m.2.2.1.length c1, .slice L1 m.2.2.2.1.length d1, .slice I1 0 e1, .slice T1 0 f1] 46)) (.cells #[.string m.1, .int .i64 m.2.1, .slice A2 m.2.2.1.length c2, .slice L2 m.2.2.2.1.length d2, .slice I2 0 e2, .slice T2 0 f2] 46); rwa [World.size_alloc] at this⟩, ⟨below_alloc (below_alloc (Below.refl _ _) _) _⟩⟩
  case round =>
    obtain ⟨k, hk, rfl, HX1, HX2, HB⟩ := hrel
    have hbx1 : wr.cell? ⟨w.heap.size, 2, none⟩ = some (.slice A1 m.2.2.1.length c1) := Go.Joins.cell_of_block HX1.out 2
    have hbx2 : wr.cell? ⟨w.heap.size + 1, 2, none⟩ = some (.slice A2 m.2.2.1.length c2) := Go.Joins.cell_of_block HX2.out 2
    by_cases hlt : k < m.2.2.1.length
    · obtain ⟨ad, cs1, e01, hl1, hf1, hcs1⟩ := at_file HF1.out k hlt
      obtain ⟨bd, cs2, e02, hl2, hf2, hcs2⟩ := at_file HF2.out k hlt
      rw [e01] at hbx1
      rw [e02] at hbx2
      clear e01 e02
      have hmem : fx m.2.2.1 k ∈ m.2.2.1 := nth_mem f0 _ k hlt
      have hmo := HBM.out _ hmem
      change KFile.K w (fx m.2.2.1 k) cs1 at hf1
      change KFile.K w (fx m.2.2.1 k) cs2 at hf2
      generalize fx m.2.2.1 k = f at *
      obtain ⟨P1, p1, M1, qq1, rfl, hp1, _, hP1, _⟩ := file_open hf1
      obtain ⟨P2, p2, M2, qq2, rfl, hp2, _, hP2, _⟩ := file_open hf2
      rw [hmo] at hcs1 hcs2
      have HY1 : Hid (∀ j u, (encF (.slice P1 f.1.length p1) f.2.1 f.2.2.1 (.slice M1 0 qq1))[j]? = some u → wr.cell? ((ad.add (k * 35)).add j) = some u) := Lib.hid fun j u hj => by
        rw [Go.Deep.add_add]
        exact cell_stay HB.out (hcs1 j u hj)
      have HY2 : Hid (∀ j u, (encF (.slice P2 f.1.length p2) f.2.1 f.2.2.1 (.slice M2 0 qq2))[j]? = some u → wr.cell? ((bd.add (k * 35)).add j) = some u) := Lib.hid fun j u hj => by
        rw [Go.Deep.add_add]
        exact cell_stay HB.out (hcs2 j u hj)
      have HP1 : Aside0 (Kd.string.C w P1 f.1.length f.1) := ⟨hP1⟩
      have HP2 : Aside0 (Kd.string.C w P2 f.1.length f.1) := ⟨hP2⟩
      have HW4 : Hid (wr.heap.size ≤ wr.drew.heap.size) := Lib.hid (Nat.le_refl _)
      clear hf1 hf2 hcs1 hcs2 hl1 hl2 hp1 hp2 hP1 hP2 hmo hmem
      go_wp2_with fail
      refine PrintLast.start_ (n := 14) (S := fun w' => Below wr.heap.size wr w') (ds := []) #[false, false, false, false, false, false, false, false, false, false, false, false, false, false] (by kernel_rfl) rfl rfl (below_drew1 (Below.refl _ _)) (fun hHeld => ?_)
      generalize wr.drew = w4 at *
      refine PrintLast.pure_ (i := 0) (N := some 64) (v := ?_) (a' := ?_) #[true, false, false, false, false, false, false, false, false, false, false, false, false, false] rfl rfl (by kernel_rfl) (fun _ _ _ h => h) (Or.inl ⟨by rfl, ?_⟩) ?_ ?_
      rotate_left
      · intro w'
        go_simp
        with_reducible rfl
      rotate_left
      · simp only [Act.put, List.setIfInBounds_toArray, List.set_cons_zero, List.set_cons_succ]
        rfl
      refine PrintLast.pure_ (i := 2) (N := some 66) (v := ?_) (a' := ?_) #[true, false, true, false, false, false, false, false, false, false, false, false, false, false] rfl rfl (by kernel_rfl) (fun _ _ _ h => h) (Or.inl ⟨by rfl, ?_⟩) ?_ ?_
      rotate_left
      · intro w'
        go_simp
        with_reducible rfl
      rotate_left
      · simp only [Act.put, List.setIfInBounds_toArray, List.set_cons_zero, List.set_cons_succ]
        rfl
      refine PrintLast.take_ (i := 1) (N := some 65) (v := ?_) (a' := ?_) #[true, true, true, false, false, false, false, false, false, false, false, false, false, false] rfl rfl (by kernel_rfl) (fun _ _ _ h => h) (Or.inl ⟨by rfl, ?_⟩) hHeld ?_ ?_
      rotate_left
      · intro w' s0
        (have g1 := cell_stay s0 hbx1; go_simp; with_reducible rfl)
      rotate_left
      · simp only [Act.put, List.setIfInBounds_toArray, List.set_cons_zero, List.set_cons_succ]
        rfl
      refine PrintLast.pure_ (i := 3) (N := some 67) (v := ?_) (a' := ?_) #[true, true, true, true, false, false, false, false, false, false, false, false, false, false] rfl rfl (by kernel_rfl) (fun _ _ _ h => h) (Or.inl ⟨by rfl, ?_⟩) ?_ ?_
      rotate_left
      · intro w'
        go_simp
        with_reducible rfl
      rotate_left
      · simp only [Act.put, List.setIfInBounds_toArray, List.set_cons_zero, List.set_cons_succ]
        rfl
      refine PrintLast.take_ (i := 4) (N := some 68) (v := .agg (encF (.slice P1 f.1.length p1) f.2.1 f.2.2.1 (.slice M1 0 qq1)).toArray) (a' := ?_) #[true, true, true, true, true, false, false, false, false, false, false, false, false, false] rfl rfl (by kernel_rfl) (fun _ _ _ h => h) (Or.inl ⟨by rfl, ?_⟩) hHeld ?_ ?_
      skip
      · intro w' s0
        exact Fl.exec_load (ty := 93) (x := .tmp 67) (ad := ad.add (k * 35)) (cs := (encF (.slice P1 f.1.length p1) f.2.1 f.2.2.1 (.slice M1 0 qq1)).toArray) (by rfl) (by rfl) (Fl.run_load (fun j u hj => cell_stay s0 (HY1.out j u hj)) Try.underlying93 rfl (sizeF (encF_len _ _ _ _)))
      rotate_left
      · simp only [Act.put, List.setIfInBounds_toArray, List.set_cons_zero, List.set_cons_succ]
        rfl
      refine PrintLast.pure_ (i := 5) (N := some 69) (v := ?_) (a' := ?_) #[true, true, true, true, true, true, false, false, false, false, false, false, false, false] rfl rfl (by kernel_rfl) (fun _ _ _ h => h) (Or.inl ⟨by rfl, ?_⟩) ?_ ?_
      rotate_left
      · intro w'
        go_simp
        with_reducible rfl
      rotate_left
      · simp only [Act.put, List.setIfInBounds_toArray, List.set_cons_zero, List.set_cons_succ]
        rfl
      refine PrintLast.take_ (i := 6) (N := some 70) (v := ?_) (a' := ?_) #[true, true, true, true, true, true, true, false, false, false, false, false, false, false] rfl rfl (by kernel_rfl) (fun _ _ _ h => h) (Or.inl ⟨by rfl, ?_⟩) hHeld ?_ ?_
      rotate_left
      · intro w' s0
        (have g2 := cell_stay s0 hbx2; go_simp; with_reducible rfl)
      rotate_left
      · simp only [Act.put, List.setIfInBounds_toArray, List.set_cons_zero, List.set_cons_succ]
        rfl
      refine PrintLast.pure_ (i := 7) (N := some 71) (v := ?_) (a' := ?_) #[true, true, true, true, true, true, true, true, false, false, false, false, false, false] rfl rfl (by kernel_rfl) (fun _ _ _ h => h) (Or.inl ⟨by rfl, ?_⟩) ?_ ?_
      rotate_left
      · intro w'
        go_simp
        with_reducible rfl
      rotate_left
      · simp only [Act.put, List.setIfInBounds_toArray, List.set_cons_zero, List.set_cons_succ]
        rfl
      refine PrintLast.pure_ (i := 8) (N := some 72) (v := ?_) (a' := ?_) #[true, true, true, true, true, true, true, true, true, false, false, false, false, false] rfl rfl (by kernel_rfl) (fun _ _ _ h => h) (Or.inl ⟨by rfl, ?_⟩) ?_ ?_
      rotate_left
      · intro w'
        go_simp
        with_reducible rfl
      rotate_left
      · simp only [Act.put, List.setIfInBounds_toArray, List.set_cons_zero, List.set_cons_succ]
        rfl
      refine PrintLast.take_ (i := 9) (N := some 73) (v := .agg (encF (.slice P2 f.1.length p2) f.2.1 f.2.2.1 (.slice M2 0 qq2)).toArray) (a' := ?_) #[true, true, true, true, true, true, true, true, true, true, false, false, false, false] rfl rfl (by kernel_rfl) (fun _ _ _ h => h) (Or.inl ⟨by rfl, ?_⟩) hHeld ?_ ?_
      skip
      · intro w' s0
        exact Fl.exec_load (ty := 93) (x := .tmp 72) (ad := bd.add (k * 35)) (cs := (encF (.slice P2 f.1.length p2) f.2.1 f.2.2.1 (.slice M2 0 qq2)).toArray) (by rfl) (by rfl) (Fl.run_load (fun j u hj => cell_stay s0 (HY2.out j u hj)) Try.underlying93 rfl (sizeF (encF_len _ _ _ _)))
      rotate_left
      · simp only [Act.put, List.setIfInBounds_toArray, List.set_cons_zero, List.set_cons_succ]
        rfl
      refine PrintLast.two_ (i := 10) (j := 11) (Ni := some 6) (Nj := some 7) #[true, true, true, true, true, true, true, true, true, true, true, false, false, false] #[true, true, true, true, true, true, true, true, true, true, false, true, false, false] rfl rfl rfl rfl (by kernel_rfl) (by decide) (by decide) (fun K hK => ?_) (fun K hK => ?_)
      · skip
        refine PrintLast.value_ (w1 := w4.alloc (.cells zF 93)) (v := .pointer (some ⟨w4.heap.size, 0, none⟩)) (by rfl) rfl ?_ ?_
        · exact Fl.exec_alloc (t := 93) (zs := zF) (by rfl) zeroF0
        refine hK.out _ _ (below_allocL hHeld _) (fun hHeld => ?_)
        clear hK K
        refine PrintLast.norm_ (a' := ?_) ?_ ?_
        rotate_left
        · show Act.put _ (some 6) _ = _
          simp only [Act.put, List.setIfInBounds_toArray, List.set_cons_zero, List.set_cons_succ]
          rfl
        have hz1 := heap_alloc_new w4 (.cells zF 93)
        have hlw : wr.heap.size ≤ w4.heap.size := HW4.out
        have hg1 : w4.heap.size < (w4.alloc (.cells zF 93)).heap.size := by rw [World.size_alloc]; omega
        generalize w4.alloc (.cells zF 93) = w5 at *
        generalize w4.heap.size = ga at *
        refine PrintLast.one_ (i := 11) (N := some 7) #[true, true, true, true, true, true, true, true, true, true, true, true, false, false] rfl rfl (by kernel_rfl) (by decide) (fun K hK => ?_)
        refine PrintLast.value_ (w1 := w5.alloc (.cells zF 93)) (v := .pointer (some ⟨w5.heap.size, 0, none⟩)) (by rfl) rfl ?_ ?_
        · exact Fl.exec_alloc (t := 93) (zs := zF) (by rfl) zeroF0
        refine hK.out _ _ (below_allocL hHeld _) (fun hHeld => ?_)
        clear hK K
        refine PrintLast.norm_ (a' := ?_) ?_ ?_
        rotate_left
        · show Act.put _ (some 7) _ = _
          simp only [Act.put, List.setIfInBounds_toArray, List.set_cons_zero, List.set_cons_succ]
          rfl
        have hz2 := heap_alloc_new w5 (.cells zF 93)
        replace hz1 := blk_alloc hz1 (.cells zF 93)
        have hlb : wr.heap.size ≤ w5.heap.size := by omega
        have hne : ga ≠ w5.heap.size := by omega
        generalize w5.alloc (.cells zF 93) = w6 at *
        generalize w5.heap.size = gb at *
        clear hg1
        refine PrintLast.one_ (i := 12) (N := none) #[true, true, true, true, true, true, true, true, true, true, true, true, true, false] rfl rfl (by kernel_rfl) (by decide) (fun K hK => ?_)
        refine PrintLast.skip_ (w1 := w6.setRow ga (encF (.slice P1 f.1.length p1) f.2.1 f.2.2.1 (.slice M1 0 qq1)).toArray) (by rfl) rfl ?_ ?_
        · exact Fl.exec_store_row (ty := 93) (x := .tmp 6) (y := .tmp 68) (g := ga) (cells := (encF (.slice P1 f.1.length p1) f.2.1 f.2.2.1 (.slice M1 0 qq1)).toArray) (by rfl) (by rfl) (by rfl) hz1 (sizeF' (encF_len _ _ _ _)) (zF_hold _ _ _ _) (Fl.all_one encF_one)
        refine hK.out _ _ (below_setRowL hHeld (by omega) _) (fun hHeld => ?_)
        clear hK K
        have hy6 := setRow_heap w6 ga _ (encF (.slice P1 f.1.length p1) f.2.1 f.2.2.1 (.slice M1 0 qq1)).toArray _ _ hz1
        have hy7 := (setRow_other w6 ga gb (encF (.slice P1 f.1.length p1) f.2.1 f.2.2.1 (.slice M1 0 qq1)).toArray (by omega)).trans hz2
        generalize w6.setRow ga (encF (.slice P1 f.1.length p1) f.2.1 f.2.2.1 (.slice M1 0 qq1)).toArray = w7 at *
        refine PrintLast.one_ (i := 13) (N := none) #[true, true, true, true, true, true, true, true, true, true, true, true, true, true] rfl rfl (by kernel_rfl) (by decide) (fun K hK => ?_)
        refine PrintLast.skip_ (w1 := w7.setRow gb (encF (.slice P2 f.1.length p2) f.2.1 f.2.2.1 (.slice M2 0 qq2)).toArray) (by rfl) rfl ?_ ?_
        · exact Fl.exec_store_row (ty := 93) (x := .tmp 7) (y := .tmp 73) (g := gb) (cells := (encF (.slice P2 f.1.length p2) f.2.1 f.2.2.1 (.slice M2 0 qq2)).toArray) (by rfl) (by rfl) (by rfl) hy7 (sizeF' (encF_len _ _ _ _)) (zF_hold _ _ _ _) (Fl.all_one encF_one)
        refine hK.out _ _ (below_setRowL hHeld (by omega) _) (fun hHeld => ?_)
        clear hK K
        have hv7 := setRow_heap w7 gb _ (encF (.slice P2 f.1.length p2) f.2.1 f.2.2.1 (.slice M2 0 qq2)).toArray _ _ hy7
        have hv6 := (setRow_other w7 gb ga (encF (.slice P2 f.1.length p2) f.2.1 f.2.2.1 (.slice M2 0 qq2)).toArray (by omega)).trans hy6
        generalize w7.setRow gb (encF (.slice P2 f.1.length p2) f.2.1 f.2.2.1 (.slice M2 0 qq2)).toArray = w8 at *
        generalize ga = g6 at *
        generalize gb = g7 at *
        refine PrintLast.done_ (by kernel_rfl) ?_
        have HX1' := Aside0.mk ((hHeld.block w.heap.size (blk_lt HX1.out)).trans HX1.out)
        have HX2' := Aside0.mk ((hHeld.block (w.heap.size + 1) (blk_lt HX2.out)).trans HX2.out)
        have HB8 := Aside0.mk (below_step HB.out hHeld)
        have HV6 := Aside0.mk hv6
        have HV7 := Aside0.mk hv7
        clear hz1 hz2 hy6 hy7 hv6 hv7 hbx1 hbx2 hHeld hne hlb hlw
        have z60 : w8.cell? ⟨g6, 0, none⟩ = some (.slice P1 f.1.length p1) := Go.Joins.cell_of_block HV6.out 0
        have z61 : w8.cell? ⟨g6, 1, none⟩ = some (.int .i64 f.2.1) := Go.Joins.cell_of_block HV6.out 1
        have z70 : w8.cell? ⟨g7, 0, none⟩ = some (.slice P2 f.1.length p2) := Go.Joins.cell_of_block HV7.out 0
        have z71 : w8.cell? ⟨g7, 1, none⟩ = some (.int .i64 f.2.1) := Go.Joins.cell_of_block HV7.out 1
        have z634 : w8.cell? ⟨g6, 34, none⟩ = some (.slice M1 0 qq1) := (Go.Joins.cell_of_block HV6.out 34).trans (by rw [List.getElem?_toArray]; exact encF_34 _ _ _ _)
        have z734 : w8.cell? ⟨g7, 34, none⟩ = some (.slice M2 0 qq2) := (Go.Joins.cell_of_block HV7.out 34).trans (by rw [List.getElem?_toArray]; exact encF_34 _ _ _ _)
        have N5 : (f.2.1 == f.2.1) = true := by simp
        have N6 : (f.2.1 != f.2.1) = false := by simp
        have HR6 : Hid (∀ q j u, (encH f.2.2.1)[j]? = some u → (w8.drewN q).cell? ((⟨g6, 2, none⟩ : Addr).add j) = some u) := Lib.hid (fun q j u hj => (by rw [World.cell?_drewN, Go.WideShapes.add_plain, Go.Joins.cell_of_block HV6.out, List.getElem?_toArray]; exact encF_2 _ _ _ _ j u hj))
        have HR7 : Hid (∀ q j u, (encH f.2.2.1)[j]? = some u → (w8.drewN q).cell? ((⟨g7, 2, none⟩ : Addr).add j) = some u) := Lib.hid (fun q j u hj => (by rw [World.cell?_drewN, Go.WideShapes.add_plain, Go.Joins.cell_of_block HV7.out, List.getElem?_toArray]; exact encF_2 _ _ _ _ j u hj))
        have HEQ := Lib.hid (eq_hh f.2.2.1)
        have HPS := Lib.hid (pathSame_any P1 p1 P2 p2 f.1 w8 (Kd.C_below HP1.out HB8.out) (Kd.C_below HP2.out HB8.out))
        go_wp2_with fail
        go_at_call 64
        refine HPS.out.mono ?_
        rintro e w9 ⟨rfl, q9, rfl⟩
        clear HPS
        go_wp2_with (first | ((with_reducible refine Fl.wpList_load_w 23 (.tmp 88) rfl ?lw (⟨g6, 2, none⟩) ?lx (encH f.2.2.1) _ ?lc Try.underlying23 rfl ?li ?_); (case lw => rfl); (case lx => rfl); (case lc => exact (HR6.out _)); (case li => exact (sizeH _))) | ((with_reducible refine Fl.wpList_load_w 23 (.tmp 90) rfl ?lw (⟨g7, 2, none⟩) ?lx (encH f.2.2.1) _ ?lc Try.underlying23 rfl ?li ?_); (case lw => rfl); (case lx => rfl); (case lc => exact (HR7.out _)); (case li => exact (sizeH _))) | ((with_reducible refine Fl.wpList_neq_w 23 23 (.tmp 89) (.tmp 91) rfl ?nw (encH f.2.2.1).toArray (encH f.2.2.1).toArray ?nx ?ny (by kernel_rfl) true (HEQ.out _) ?_); (case nw => rfl); (case nx => rfl); (case ny => rfl)))
        go_roundw
        case rel => exact ⟨k + 1, by omega, by go_num, ⟨by rw [World.heap_drewN]; exact HX1'.out⟩, ⟨by rw [World.heap_drewN]; exact HX2'.out⟩, ⟨below_drewN HB8.out _⟩⟩
        case measure => simp [intOf]; omega
      · skip
        refine PrintLast.value_ (w1 := w4.alloc (.cells zF 93)) (v := .pointer (some ⟨w4.heap.size, 0, none⟩)) (by rfl) rfl ?_ ?_
        · exact Fl.exec_alloc (t := 93) (zs := zF) (by rfl) zeroF0
        refine hK.out _ _ (below_allocL hHeld _) (fun hHeld => ?_)
        clear hK K
        refine PrintLast.norm_ (a' := ?_) ?_ ?_
        rotate_left
        · show Act.put _ (some 7) _ = _
          simp only [Act.put, List.setIfInBounds_toArray, List.set_cons_zero, List.set_cons_succ]
          rfl
        have hz1 := heap_alloc_new w4 (.cells zF 93)
        have hlw : wr.heap.size ≤ w4.heap.size := HW4.out
        have hg1 : w4.heap.size < (w4.alloc (.cells zF 93)).heap.size := by rw [World.size_alloc]; omega
        generalize w4.alloc (.cells zF 93) = w5 at *
        generalize w4.heap.size = ga at *
        refine PrintLast.one_ (i := 10) (N := some 6) #[true, true, true, true, true, true, true, true, true, true, true, true, false, false] rfl rfl (by kernel_rfl) (by decide) (fun K hK => ?_)
        refine PrintLast.value_ (w1 := w5.alloc (.cells zF 93)) (v := .pointer (some ⟨w5.heap.size, 0, none⟩)) (by rfl) rfl ?_ ?_
        · exact Fl.exec_alloc (t := 93) (zs := zF) (by rfl) zeroF0
        refine hK.out _ _ (below_allocL hHeld _) (fun hHeld => ?_)
        clear hK K
        refine PrintLast.norm_ (a' := ?_) ?_ ?_
        rotate_left
        · show Act.put _ (some 6) _ = _
          simp only [Act.put, List.setIfInBounds_toArray, List.set_cons_zero, List.set_cons_succ]
          rfl
        have hz2 := heap_alloc_new w5 (.cells zF 93)
        replace hz1 := blk_alloc hz1 (.cells zF 93)
        have hlb : wr.heap.size ≤ w5.heap.size := by omega
        have hne : ga ≠ w5.heap.size := by omega
        generalize w5.alloc (.cells zF 93) = w6 at *
        generalize w5.heap.size = gb at *
        clear hg1
        refine PrintLast.one_ (i := 12) (N := none) #[true, true, true, true, true, true, true, true, true, true, true, true, true, false] rfl rfl (by kernel_rfl) (by decide) (fun K hK => ?_)
        refine PrintLast.skip_ (w1 := w6.setRow gb (encF (.slice P1 f.1.length p1) f.2.1 f.2.2.1 (.slice M1 0 qq1)).toArray) (by rfl) rfl ?_ ?_
        · exact Fl.exec_store_row (ty := 93) (x := .tmp 6) (y := .tmp 68) (g := gb) (cells := (encF (.slice P1 f.1.length p1) f.2.1 f.2.2.1 (.slice M1 0 qq1)).toArray) (by rfl) (by rfl) (by rfl) hz2 (sizeF' (encF_len _ _ _ _)) (zF_hold _ _ _ _) (Fl.all_one encF_one)
        refine hK.out _ _ (below_setRowL hHeld (by omega) _) (fun hHeld => ?_)
        clear hK K
        have hy6 := setRow_heap w6 gb _ (encF (.slice P1 f.1.length p1) f.2.1 f.2.2.1 (.slice M1 0 qq1)).toArray _ _ hz2
        have hy7 := (setRow_other w6 gb ga (encF (.slice P1 f.1.length p1) f.2.1 f.2.2.1 (.slice M1 0 qq1)).toArray (by omega)).trans hz1
        generalize w6.setRow gb (encF (.slice P1 f.1.length p1) f.2.1 f.2.2.1 (.slice M1 0 qq1)).toArray = w7 at *
        refine PrintLast.one_ (i := 13) (N := none) #[true, true, true, true, true, true, true, true, true, true, true, true, true, true] rfl rfl (by kernel_rfl) (by decide) (fun K hK => ?_)
        refine PrintLast.skip_ (w1 := w7.setRow ga (encF (.slice P2 f.1.length p2) f.2.1 f.2.2.1 (.slice M2 0 qq2)).toArray) (by rfl) rfl ?_ ?_
        · exact Fl.exec_store_row (ty := 93) (x := .tmp 7) (y := .tmp 73) (g := ga) (cells := (encF (.slice P2 f.1.length p2) f.2.1 f.2.2.1 (.slice M2 0 qq2)).toArray) (by rfl) (by rfl) (by rfl) hy7 (sizeF' (encF_len _ _ _ _)) (zF_hold _ _ _ _) (Fl.all_one encF_one)
        refine hK.out _ _ (below_setRowL hHeld (by omega) _) (fun hHeld => ?_)
        clear hK K
        have hv7 := setRow_heap w7 ga _ (encF (.slice P2 f.1.length p2) f.2.1 f.2.2.1 (.slice M2 0 qq2)).toArray _ _ hy7
        have hv6 := (setRow_other w7 ga gb (encF (.slice P2 f.1.length p2) f.2.1 f.2.2.1 (.slice M2 0 qq2)).toArray (by omega)).trans hy6
        generalize w7.setRow ga (encF (.slice P2 f.1.length p2) f.2.1 f.2.2.1 (.slice M2 0 qq2)).toArray = w8 at *
        generalize gb = g6 at *
        generalize ga = g7 at *
        refine PrintLast.done_ (by kernel_rfl) ?_
        have HX1' := Aside0.mk ((hHeld.block w.heap.size (blk_lt HX1.out)).trans HX1.out)
        have HX2' := Aside0.mk ((hHeld.block (w.heap.size + 1) (blk_lt HX2.out)).trans HX2.out)
        have HB8 := Aside0.mk (below_step HB.out hHeld)
        have HV6 := Aside0.mk hv6
        have HV7 := Aside0.mk hv7
        clear hz1 hz2 hy6 hy7 hv6 hv7 hbx1 hbx2 hHeld hne hlb hlw
        have z60 : w8.cell? ⟨g6, 0, none⟩ = some (.slice P1 f.1.length p1) := Go.Joins.cell_of_block HV6.out 0
        have z61 : w8.cell? ⟨g6, 1, none⟩ = some (.int .i64 f.2.1) := Go.Joins.cell_of_block HV6.out 1
        have z70 : w8.cell? ⟨g7, 0, none⟩ = some (.slice P2 f.1.length p2) := Go.Joins.cell_of_block HV7.out 0
        have z71 : w8.cell? ⟨g7, 1, none⟩ = some (.int .i64 f.2.1) := Go.Joins.cell_of_block HV7.out 1
        have z634 : w8.cell? ⟨g6, 34, none⟩ = some (.slice M1 0 qq1) := (Go.Joins.cell_of_block HV6.out 34).trans (by rw [List.getElem?_toArray]; exact encF_34 _ _ _ _)
        have z734 : w8.cell? ⟨g7, 34, none⟩ = some (.slice M2 0 qq2) := (Go.Joins.cell_of_block HV7.out 34).trans (by rw [List.getElem?_toArray]; exact encF_34 _ _ _ _)
        have N5 : (f.2.1 == f.2.1) = true := by simp
        have N6 : (f.2.1 != f.2.1) = false := by simp
        have HR6 : Hid (∀ q j u, (encH f.2.2.1)[j]? = some u → (w8.drewN q).cell? ((⟨g6, 2, none⟩ : Addr).add j) = some u) := Lib.hid (fun q j u hj => (by rw [World.cell?_drewN, Go.WideShapes.add_plain, Go.Joins.cell_of_block HV6.out, List.getElem?_toArray]; exact encF_2 _ _ _ _ j u hj))
        have HR7 : Hid (∀ q j u, (encH f.2.2.1)[j]? = some u → (w8.drewN q).cell? ((⟨g7, 2, none⟩ : Addr).add j) = some u) := Lib.hid (fun q j u hj => (by rw [World.cell?_drewN, Go.WideShapes.add_plain, Go.Joins.cell_of_block HV7.out, List.getElem?_toArray]; exact encF_2 _ _ _ _ j u hj))
        have HEQ := Lib.hid (eq_hh f.2.2.1)
        have HPS := Lib.hid (pathSame_any P1 p1 P2 p2 f.1 w8 (Kd.C_below HP1.out HB8.out) (Kd.C_below HP2.out HB8.out))
        go_wp2_with fail
        go_at_call 64
        refine HPS.out.mono ?_
        rintro e w9 ⟨rfl, q9, rfl⟩
        clear HPS
        go_wp2_with (first | ((with_reducible refine Fl.wpList_load_w 23 (.tmp 88) rfl ?lw (⟨g6, 2, none⟩) ?lx (encH f.2.2.1) _ ?lc Try.underlying23 rfl ?li ?_); (case lw => rfl); (case lx => rfl); (case lc => exact (HR6.out _)); (case li => exact (sizeH _))) | ((with_reducible refine Fl.wpList_load_w 23 (.tmp 90) rfl ?lw (⟨g7, 2, none⟩) ?lx (encH f.2.2.1) _ ?lc Try.underlying23 rfl ?li ?_); (case lw => rfl); (case lx => rfl); (case lc => exact (HR7.out _)); (case li => exact (sizeH _))) | ((with_reducible refine Fl.wpList_neq_w 23 23 (.tmp 89) (.tmp 91) rfl ?nw (encH f.2.2.1).toArray (encH f.2.2.1).toArray ?nx ?ny (by kernel_rfl) true (HEQ.out _) ?_); (case nw => rfl); (case nx => rfl); (case ny => rfl)))
        go_roundw
        case rel => exact ⟨k + 1, by omega, by go_num, ⟨by rw [World.heap_drewN]; exact HX1'.out⟩, ⟨by rw [World.heap_drewN]; exact HX2'.out⟩, ⟨below_drewN HB8.out _⟩⟩
        case measure => simp [intOf]; omega
    · have hb31 : wr.cell? ⟨w.heap.size, 3, none⟩ = some (.slice L1 m.2.2.2.1.length d1) := Go.Joins.cell_of_block HX1.out 3
      have hb32 : wr.cell? ⟨w.heap.size + 1, 3, none⟩ = some (.slice L2 m.2.2.2.1.length d2) := Go.Joins.cell_of_block HX2.out 3
      go_wp2
      go_loopw [8] (fun i wr => ∃ k : Nat, k ≤ m.2.2.2.1.length ∧ i = .int .i64 k ∧ Aside0 (wr.heap[w.heap.size]? = some (.cells #[.string m.1, .int .i64 m.2.1, .slice A1 m.2.2.1.length c1, .slice L1 m.2.2.2.1.length d1, .slice I1 0 e1, .slice T1 0 f1] 46)) ∧ Aside0 (wr.heap[w.heap.size + 1]? = some (.cells #[.string m.1, .int .i64 m.2.1, .slice A2 m.2.2.1.length c2, .slice L2 m.2.2.2.1.length d2, .slice I2 0 e2, .slice T2 0 f2] 46)) ∧ Aside0 (Below w.heap.size w wr)) (fun i _ => m.2.2.2.1.length - (intOf i).toNat)
      case atStart => exact ⟨0, by omega, rfl, HX1, HX2, HB⟩
      case round =>
        clear HX1 HX2 HB hbx1 hbx2 hb31 hb32
        obtain ⟨k, hk, rfl, HX1, HX2, HB⟩ := hrel
        have hbx1 : wr.cell? ⟨w.heap.size, 3, none⟩ = some (.slice L1 m.2.2.2.1.length d1) := Go.Joins.cell_of_block HX1.out 3
        have hbx2 : wr.cell? ⟨w.heap.size + 1, 3, none⟩ = some (.slice L2 m.2.2.2.1.length d2) := Go.Joins.cell_of_block HX2.out 3
        by_cases hlt : k < m.2.2.2.1.length
        · obtain ⟨ad, cs1, e01, hl1, hf1, hcs1⟩ := at_layer HL1.out k hlt
          obtain ⟨bd, cs2, e02, hl2, hf2, hcs2⟩ := at_layer HL2.out k hlt
          rw [e01] at hbx1
          rw [e02] at hbx2
          clear e01 e02
          obtain ⟨A1', a1', rfl, ha1, hh1⟩ := layer_open hf1
          obtain ⟨A2', a2', rfl, ha2, hh2⟩ := layer_open hf2
          generalize m.2.2.2.1.getD k l0 = l at *
          have R1 : Hid (∀ q, (Instr.loadAt 23 (.pointer (some (ad.add (k * 33))))).run Try.prog (wr.drewN q) = .ok (.agg (encH l.1).toArray) (wr.drewN q)) := Lib.hid fun q => Fl.run_load (fun j v hj => by rw [World.cell?_drewN, Go.Deep.add_add]; exact cell_stay HB.out (hcs1 j v (by rw [List.getElem?_append_left (List.getElem?_eq_some_iff.1 hj).1]; exact hj))) Try.underlying23 rfl (sizeH _)
          have R2 : Hid (∀ q, (Instr.loadAt 23 (.pointer (some (bd.add (k * 33))))).run Try.prog (wr.drewN q) = .ok (.agg (encH l.1).toArray) (wr.drewN q)) := Lib.hid fun q => Fl.run_load (fun j v hj => by rw [World.cell?_drewN, Go.Deep.add_add]; exact cell_stay HB.out (hcs2 j v (by rw [List.getElem?_append_left (List.getElem?_eq_some_iff.1 hj).1]; exact hj))) Try.underlying23 rfl (sizeH _)
          have hy1 : wr.cell? ⟨(ad.add (k * 33)).block, (ad.add (k * 33)).off + 32, none⟩ = some (.slice A1' l.2.length a1') := cell_stay HB.out (Fl.fcell 32 (by omega) (hcs1 32 _ (by rw [List.getElem?_append_right (by rw [encH_len]; simp), encH_len]; rfl)))
          have hy2 : wr.cell? ⟨(bd.add (k * 33)).block, (bd.add (k * 33)).off + 32, none⟩ = some (.slice A2' l.2.length a2') := cell_stay HB.out (Fl.fcell 32 (by omega) (hcs2 32 _ (by rw [List.getElem?_append_right (by rw [encH_len]; simp), encH_len]; rfl)))
          have HEQ := Lib.hid (eq_hh l.1)
          have HRS := Lib.hid (fun q => rowSame_any A1' a1' A2' a2' l.2 (wr.drewN q) (Kd.C_below hh1 (below_drewN HB.out q)) (Kd.C_below hh2 (below_drewN HB.out q)))
          clear hf1 hf2 hcs1 hcs2 hl1 hl2 ha1 ha2 hh1 hh2
          go_wp2_with fail
          refine wp_region_quiet_lit (by kernel_rfl) (by kernel_rfl) ?_
          repeat (first
            | (go_big_quiet_want; (with_reducible refine Fl.quiet_load 23 (.tmp 115) rfl (ad.add (k * 33)) ?qx (encH l.1).toArray ?ql ?_); (case qx => rfl); (case ql => rintro _ ⟨q, rfl⟩; exact R1.out q); go_simp; go_big_quiet_on)
            | (go_big_quiet_want; (with_reducible refine Fl.quiet_load 23 (.tmp 121) rfl (bd.add (k * 33)) ?qx (encH l.1).toArray ?ql ?_); (case qx => rfl); (case ql => rintro _ ⟨q, rfl⟩; exact R2.out q); go_simp; go_big_quiet_on)
            | (go_big_quiet_want; (with_reducible refine Fl.quiet_neq 23 23 (.tmp 116) (.tmp 122) rfl (encH l.1).toArray (encH l.1).toArray ?qx ?qy (by kernel_rfl) true HEQ.out ?_); (case qx => rfl); (case qy => rfl); go_simp; go_big_quiet_on)
            | go_big_quiet_step ((go_at_call 86; exact Calls.quiet_of (HRS.out _))))
          refine wpQuiet_nil ?_
          intro _ hw'
          obtain ⟨nq, hw''⟩ := hw'
          subst hw''
          go_wp2
          go_roundw
          case rel => exact ⟨k + 1, by omega, by go_num, ⟨by rw [World.heap_drewN]; exact HX1.out⟩, ⟨by rw [World.heap_drewN]; exact HX2.out⟩, ⟨below_drewN HB.out _⟩⟩
          case measure => simp [intOf]; omega
        · go_wp2
          go_ret
          exact ⟨rfl, HB.out⟩
end Mt
end Go.Proofs.Ytjeeakhgjcbhaaa
set_option linter.unusedVariables false
set_option linter.unusedSimpArgs false
namespace Go.Proofs.Ytjeeakhgjcbhaaa
open Go.RowKit Go.Proofs.YtjeeakhgjcbhaaaW.PrintWords Go.Proofs.YtjeeakhgjcbhaaaW Go.Proofs.YtjeeakhgjcbhaaaW.PrintMore
namespace Cr
open Wd Vl Mt PCreateBlocks
/-- A file's length that may not be. -/
def badLen (f : FileD) : Bool := decide (f.2.1 < 0) || decide (f.2.1 > 1099511627776)
/-- How many pieces, as create reckons it. -/
def cP (n pl : Int) : Int := wrap64 ((wrap64 (Int.tdiv n pl)) + (mn (Int.tmod n pl) 1))
def csum (pl : Int) : List FileD → Int → Int
  | [], s => s
  | f :: l, s => csum pl l (wrap64 (s + cP f.2.1 pl))
theorem csum_take (pl : Int) : ∀ (l : List FileD) (k : Nat) (s : Int), k < l.length → csum pl (l.take (k + 1)) s = wrap64 (csum pl (l.take k) s + cP (l.getD k f0).2.1 pl)
  | [], k, s, h => by simp at h
  | f :: l, 0, s, h => by simp [csum]
  | f :: l, k + 1, s, h => by
    simp only [List.take_succ_cons, csum, List.getD_cons_succ]
    exact csum_take pl l k _ (by simpa using h)
set_option maxRecDepth 100000 in
theorem fault1_any (f : FileD) (cs : List Value) (w : World) (hK : KFile.K w f cs) :
    Calls Try.prog 82 #[.agg cs.toArray] w fun e w' => e = .returned (.bool (badLen f)) ∧ Below w.heap.size w w' := by
  have hcs : cs[1]? = some (.int .i64 f.2.1) := by
    obtain ⟨P, p, M, q, rfl, _⟩ := file_open hK
    rfl
  have hc : (w.alloc (.cells cs.toArray 93)).cell? ⟨w.heap.size, 1, none⟩ = some (.int .i64 f.2.1) := (Go.Joins.cell_of_block (heap_alloc_new w _) 1).trans (by rw [List.getElem?_toArray]; exact hcs)
  have hB := below_alloc (Below.refl w.heap.size w) (.cells cs.toArray 93)
  clear hK
  go_enter Try.func82, Try.ntmps82
  unfold badLen
  generalize f.2.1 = n at *
  by_cases h1 : n < 0
  · have b1 : decide (n < 0) = true := decide_eq_true h1
    go_wp2
    go_ret
    exact ⟨by simp [b1], hB⟩
  · have b1 : decide (n < 0) = false := decide_eq_false h1
    go_wp2
    go_ret
    exact ⟨by simp [b1], hB⟩
set_option maxRecDepth 100000 in
theorem pieces_any (m : MetaD) (cs : List Value) (w : World) (hK : KMeta.K w m cs) :
    Calls Try.prog 55 #[.agg cs.toArray] w fun e w' => e = .returned (.func (.func 83) #[] #[.pointer (some ⟨w.heap.size, 0, none⟩)]) ∧ w'.cell? ⟨w.heap.size, 1, none⟩ = some (.int .i64 m.2.1) ∧ Below w.heap.size w w' := by
  obtain ⟨AF, cF, AL, cL, AI, cI, AT, cT, rfl, _⟩ := meta_open hK
  have hmf : ∀ (fn : Fn) (first cap : Array Value) (w : World), (Instr.makeFunc fn first cap).run Try.prog w = .ok (.func fn first cap) w := fun _ _ _ _ => rfl
  have hB := below_alloc (Below.refl w.heap.size w) (.cells #[.string m.1, .int .i64 m.2.1, .slice AF m.2.2.1.length cF, .slice AL m.2.2.2.1.length cL, .slice AI m.2.2.2.2.1.length cI, .slice AT m.2.2.2.2.2.length cT] 46)
  have hc : (w.alloc (.cells #[.string m.1, .int .i64 m.2.1, .slice AF m.2.2.1.length cF, .slice AL m.2.2.2.1.length cL, .slice AI m.2.2.2.2.1.length cI, .slice AT m.2.2.2.2.2.length cT] 46)).cell? ⟨w.heap.size, 1, none⟩ = some (.int .i64 m.2.1) := Go.Joins.cell_of_block (heap_alloc_new w _) 1
  clear hK
  go_enter Try.func55, Try.ntmps55
  go_wp2
  go_ret
  exact ⟨rfl, hc, hB⟩
set_option maxRecDepth 100000 in
theorem pieces1_any (f : FileD) (cs : List Value) (g : Nat) (pl : Int) (w : World) (hK : KFile.K w f cs) (hp : w.cell? ⟨g, 1, none⟩ = some (.int .i64 pl)) (hpl : pl ≠ 0) :
    Calls Try.prog 83 #[.agg cs.toArray, .pointer (some ⟨g, 0, none⟩)] w fun e w' => e = .returned (.int .i64 (cP f.2.1 pl)) ∧ Below w.heap.size w w' := by
  have hcs : cs[1]? = some (.int .i64 f.2.1) := by
    obtain ⟨P, p, M, q, rfl, _⟩ := file_open hK
    rfl
  have hc : (w.alloc (.cells cs.toArray 93)).cell? ⟨w.heap.size, 1, none⟩ = some (.int .i64 f.2.1) := (Go.Joins.cell_of_block (heap_alloc_new w _) 1).trans (by rw [List.getElem?_toArray]; exact hcs)
  have hB := below_alloc (Below.refl w.heap.size w) (.cells cs.toArray 93)
  have hp1 : (w.alloc (.cells cs.toArray 93)).cell? ⟨g, 1, none⟩ = some (.int .i64 pl) := cell_stay hB hp
  clear hK
  go_enter Try.func83, Try.ntmps83
  go_wp2_with fail
  go_at_call 68
  refine (create_parts.calls f.2.1 pl (cP f.2.1 pl) _ (by unfold create_parts.f cP; rw [if_neg hpl])).mono ?_
  rintro e w1 ⟨rfl, hb1⟩
  go_wp2
  go_ret
  exact ⟨rfl, below_step hB hb1⟩
set_option maxHeartbeats 2000000 in
set_option maxRecDepth 100000 in
theorem sum_any (A : Option Addr) (c : Nat) (fs : List FileD) (g : Nat) (pl : Int) (w : World) (hr : KFile.C w A fs.length fs) (hlen : fs.length * 88 ≤ 140737488351232) (hp : w.cell? ⟨g, 1, none⟩ = some (.int .i64 pl)) (hpl : pl ≠ 0) :
    Calls Try.prog 54 #[.slice A fs.length c, .func (.func 83) #[] #[.pointer (some ⟨g, 0, none⟩)]] w fun e w' => e = .returned (.int .i64 (csum pl fs 0)) ∧ Below w.heap.size w w' := by
  have HF := Aside0.mk hr
  have HP := Aside0.mk hp
  clear hr hp
  go_enter Try.func54, Try.ntmps54
  go_wp2
  go_loopw [5, 10] (fun s i wr => ∃ k : Nat, k ≤ fs.length ∧ i = .int .i64 k ∧ s = .int .i64 (csum pl (fs.take k) 0) ∧ Aside0 (Below w.heap.size w wr)) (fun s i _ => fs.length - (intOf i).toNat)
  case atStart => exact ⟨0, by omega, rfl, rfl, ⟨Below.refl _ _⟩⟩
  case round =>
    obtain ⟨k, hk, rfl, rfl, HB⟩ := hrel
    by_cases hlt : k < fs.length
    · skip
      obtain ⟨ad, cs, e0, hl35, hf, hcs⟩ := at_file HF.out k hlt
      subst e0
      change KFile.K w (fx fs k) cs at hf
      have hfs : fs.getD k f0 = fx fs k := rfl
      have HTK := Lib.hid hfs
      generalize fx fs k = f at *
      have hf' := hf
      obtain ⟨P, p, M, q, rfl, _⟩ := file_open hf
      have HY : Hid (∀ j u, (encF (.slice P f.1.length p) f.2.1 f.2.2.1 (.slice M f.2.2.2.length q))[j]? = some u → wr.cell? ((ad.add (k * 35)).add j) = some u) := Lib.hid fun j u hj => by
        rw [Go.Deep.add_add]
        exact cell_stay HB.out (hcs j u hj)
      have HK := Aside0.mk hf'
      have HS := Lib.hid (rfl : wr.heap.size = wr.heap.size)
      have HZ := Lib.hid (zF_hold (.slice P f.1.length p) f.2.1 f.2.2.1 (.slice M f.2.2.2.length q))
      clear hf hf' hcs hl35 hfs
      go_wp2_with (first | ((with_reducible refine Fl.wpList_load rfl 93 (.tmp 12) rfl (ad.add (k * 35)) ?lx (encF (.slice P f.1.length p) f.2.1 f.2.2.1 (.slice M f.2.2.2.length q)) _ ?lc Try.underlying93 rfl ?li ?_); (case lx => rfl); (case lc => exact HY.out); (case li => exact (sizeF (encF_len _ _ _ _)))) | ((with_reducible refine Fl.wpList_store_fresh rfl 93 (.tmp 7) (.tmp 13) rfl 93 _ (encF (.slice P f.1.length p) f.2.1 f.2.2.1 (.slice M f.2.2.2.length q)).toArray ?sx ?sy ?si ?so ?s1 ?_); (case sx => rfl); (case sy => rfl); (case si => exact (sizeF' (encF_len _ _ _ _))); (case so => exact HZ.out); (case s1 => exact Fl.all_one encF_one)) | ((with_reducible refine Fl.wpList_load_fresh rfl 93 (.tmp 7) rfl 93 (encF (.slice P f.1.length p) f.2.1 f.2.2.1 (.slice M f.2.2.2.length q)).toArray ?fx _ Try.underlying93 rfl ?fi ?_); (case fx => rfl); (case fi => exact (sizeF' (encF_len _ _ _ _)))))
      refine (pieces1_any f _ g pl _ (KFile.K_below (below_alloc HB.out _) HK.out) (cell_stay (below_alloc HB.out _) HP.out) hpl).mono ?_
      rintro e w2 ⟨rfl, hb2⟩
      have HB2 := Aside0.mk (below_step (below_alloc HB.out _) hb2)
      go_wp2
      go_roundw
      case rel => exact ⟨k + 1, by omega, by go_num, by rw [csum_take pl fs k 0 hlt, HTK.out], HB2⟩
      case measure => simp [intOf]; omega
    · go_wp2
      go_ret
      have : k = fs.length := by omega
      subst this
      exact ⟨by first | rfl | (rw [List.take_length]; rfl), HB.out⟩
set_option maxHeartbeats 2000000 in
set_option maxRecDepth 100000 in
theorem seek_any (A : Option Addr) (c : Nat) (fs : List FileD) (w : World) (hr : KFile.C w A fs.length fs) (hlen : fs.length * 88 ≤ 140737488351232) :
    Calls Try.prog 81 #[.slice A fs.length c, .func (.func 82) #[] #[]] w fun e w' => (∃ r : Int, e = .returned (.int .i64 r) ∧ (decide (r ≥ 0) = fs.any badLen)) ∧ Below w.heap.size w w' := by
  have HF := Aside0.mk hr
  clear hr
  go_enter Try.func81, Try.ntmps81
  go_wp2
  go_loopw [9] (fun i wr => ∃ k : Nat, k ≤ fs.length ∧ i = .int .i64 k ∧ Hid (∀ f ∈ fs.take k, badLen f = false) ∧ Aside0 (Below w.heap.size w wr)) (fun i _ => fs.length - (intOf i).toNat)
  case atStart => exact ⟨0, by omega, rfl, Lib.hid (by simp), ⟨Below.refl _ _⟩⟩
  case round =>
    obtain ⟨k, hk, rfl, HN, HB⟩ := hrel
    by_cases hlt : k < fs.length
    · have hmem : fs.getD k f0 ∈ fs := nth_mem f0 fs k hlt
      have htk : fs.take (k + 1) = fs.take k ++ [fs.getD k f0] := by rw [List.take_succ_eq_append_getElem hlt, List.getD_eq_getElem?_getD, List.getElem?_eq_getElem hlt]; rfl
      have HMM := Lib.hid hmem
      have HTT := Lib.hid htk
      clear hmem htk
      obtain ⟨ad, cs, e0, hl35, hf, hcs⟩ := at_file HF.out k hlt
      subst e0
      change KFile.K w (fx fs k) cs at hf
      have hfs : fs.getD k f0 = fx fs k := rfl
      have HTK := Lib.hid hfs
      generalize fx fs k = f at *
      have hf' := hf
      obtain ⟨P, p, M, q, rfl, _⟩ := file_open hf
      have HY : Hid (∀ j u, (encF (.slice P f.1.length p) f.2.1 f.2.2.1 (.slice M f.2.2.2.length q))[j]? = some u → wr.cell? ((ad.add (k * 35)).add j) = some u) := Lib.hid fun j u hj => by
        rw [Go.Deep.add_add]
        exact cell_stay HB.out (hcs j u hj)
      have HK := Aside0.mk hf'
      have HS := Lib.hid (rfl : wr.heap.size = wr.heap.size)
      have HZ := Lib.hid (zF_hold (.slice P f.1.length p) f.2.1 f.2.2.1 (.slice M f.2.2.2.length q))
      clear hf hf' hcs hl35 hfs
      rw [HTK.out] at HMM HTT
      go_wp2_with (first | ((with_reducible refine Fl.wpList_load rfl 93 (.tmp 12) rfl (ad.add (k * 35)) ?lx (encF (.slice P f.1.length p) f.2.1 f.2.2.1 (.slice M f.2.2.2.length q)) _ ?lc Try.underlying93 rfl ?li ?_); (case lx => rfl); (case lc => exact HY.out); (case li => exact (sizeF (encF_len _ _ _ _)))) | ((with_reducible refine Fl.wpList_store_fresh rfl 93 (.tmp 6) (.tmp 13) rfl 93 _ (encF (.slice P f.1.length p) f.2.1 f.2.2.1 (.slice M f.2.2.2.length q)).toArray ?sx ?sy ?si ?so ?s1 ?_); (case sx => rfl); (case sy => rfl); (case si => exact (sizeF' (encF_len _ _ _ _))); (case so => exact HZ.out); (case s1 => exact Fl.all_one encF_one)) | ((with_reducible refine Fl.wpList_load_fresh rfl 93 (.tmp 6) rfl 93 (encF (.slice P f.1.length p) f.2.1 f.2.2.1 (.slice M f.2.2.2.length q)).toArray ?fx _ Try.underlying93 rfl ?fi ?_); (case fx => rfl); (case fi => exact (sizeF' (encF_len _ _ _ _)))))
      refine (fault1_any f _ _ (KFile.K_below (below_alloc HB.out _) HK.out)).mono ?_
      rintro e w2 ⟨rfl, hb2⟩
      have HB2 := Aside0.mk (below_step (below_alloc HB.out _) hb2)
      cases hbad : badLen f with
      | true =>
        go_wp2
        go_ret
        exact ⟨⟨k, rfl, by rw [decide_eq_true (by omega : (k : Int) ≥ 0)]; exact (List.any_eq_true.2 ⟨f, HMM.out, hbad⟩).symm⟩, HB2.out⟩
      | false =>
        go_wp2
        go_roundw
        case rel => exact ⟨k + 1, by omega, by go_num, Lib.hid (by rw [HTT.out]; intro x hx; rcases List.mem_append.1 hx with hx | hx; exact HN.out x hx; rw [List.mem_singleton.1 hx]; exact hbad), HB2⟩
        case measure => simp [intOf]; omega
    · go_wp2
      go_ret
      have : k = fs.length := by omega
      subst this
      exact ⟨⟨-1, rfl, by
        have h := HN.out
        rw [List.take_length] at h
        rw [decide_eq_false (by decide : ¬ (-1 : Int) ≥ 0)]
        exact (List.any_eq_false.2 fun x hx => by rw [h x hx]; exact Bool.false_ne_true).symm⟩, HB.out⟩

end Cr
end Go.Proofs.Ytjeeakhgjcbhaaa
set_option linter.unusedVariables false
set_option linter.unusedSimpArgs false
namespace Go.Proofs.Ytjeeakhgjcbhaaa
open Go.RowKit Go.Proofs.YtjeeakhgjcbhaaaW.PrintWords
namespace P2
theorem ofInt_i64 (a : Nat) (ha : a < 9223372036854775808) : (BitVec.ofInt 64 (a : Int)).toNat = a := by
  rw [BitVec.ofInt_natCast, BitVec.toNat_ofNat]; exact Nat.mod_eq_of_lt (by omega)
theorem i64_and_nat (a b : Nat) (ha : a < 9223372036854775808) (hb : b < 9223372036854775808) : Go.bits .and .i64 (a : Int) (b : Int) = ((a &&& b : Nat) : Int) := by
  have hx : a &&& b < 2 ^ 63 := Nat.and_lt_two_pow _ (by omega)
  show IntKind.i64.wrap ((BitVec.ofInt 64 (a : Int) &&& BitVec.ofInt 64 (b : Int)).toNat : Int) = _
  rw [BitVec.toNat_and, ofInt_i64 a ha, ofInt_i64 b hb, IntKind.wrap_i64]
  omega
/-- The powers of two from 2^lo on, n of them. -/
def pows (lo n : Nat) : List Int := (List.range n).map fun k => (((2 ^ (lo + k) : Nat)) : Int)
def powB (lo n : Nat) (x : Int) : Bool := (pows lo n).any fun p => x == p
theorem powB_iff (lo n : Nat) (x : Int) : powB lo n x = true ↔ ∃ k, k < n ∧ x = ((2 ^ (lo + k) : Nat) : Int) := by
  unfold powB pows
  simp only [List.any_map, List.any_eq_true, List.mem_range, Function.comp, beq_iff_eq]
/-- A number from 2^lo to 2^hi is a power of two just if 'n & (n - 1)' is none. -/
theorem and_pow (lo n : Nat) (hn : lo + n ≤ 62) (hn0 : 0 < n) (x : Int) (h1 : ((2 ^ lo : Nat) : Int) ≤ x) (h2 : x ≤ ((2 ^ (lo + (n - 1)) : Nat) : Int)) : (Go.bits .and .i64 x (x - 1) != 0) = !powB lo n x := by
  obtain ⟨a, rfl⟩ : ∃ a : Nat, x = a := ⟨x.toNat, by have := Nat.two_pow_pos lo; omega⟩
  have h1' : 2 ^ lo ≤ a := by exact_mod_cast h1
  have h2' : a ≤ 2 ^ (lo + (n - 1)) := by exact_mod_cast h2
  have hp := Nat.two_pow_pos lo
  have hlt : 2 ^ (lo + (n - 1)) < 2 ^ 62 := Nat.pow_lt_pow_right (by omega) (by omega)
  have e : ((a : Int) - 1) = ((a - 1 : Nat) : Int) := by omega
  rw [e, i64_and_nat a (a - 1) (by omega) (by omega)]
  have key := Nat.and_sub_one_eq_zero_iff_isPowerOfTwo (n := a) (by omega)
  rw [Bool.eq_iff_iff]
  simp only [bne_iff_ne, ne_eq, Bool.not_eq_true', ← Bool.not_eq_true, powB_iff]
  have hz : (((a &&& (a - 1) : Nat) : Int) = 0) ↔ (a &&& (a - 1)) = 0 := by omega
  rw [hz, key]
  refine not_congr ⟨?_, ?_⟩
  · rintro ⟨k, rfl⟩
    have k1 : lo ≤ k := (Nat.pow_le_pow_iff_right (by omega)).1 h1'
    have k2 : k ≤ lo + (n - 1) := (Nat.pow_le_pow_iff_right (by omega)).1 h2'
    exact ⟨k - lo, by omega, by rw [show lo + (k - lo) = k by omega]⟩
  · rintro ⟨k, _, h⟩
    exact ⟨lo + k, by exact_mod_cast h⟩
theorem powB_lo {lo n : Nat} {x : Int} (h : x < ((2 ^ lo : Nat) : Int)) : powB lo n x = false := by
  rw [← Bool.not_eq_true, powB_iff]
  rintro ⟨k, _, rfl⟩
  have : 2 ^ lo ≤ 2 ^ (lo + k) := Nat.pow_le_pow_right (by omega) (by omega)
  omega
theorem powB_hi {lo n : Nat} {x : Int} (h : ((2 ^ (lo + (n - 1)) : Nat) : Int) < x) : powB lo n x = false := by
  rw [← Bool.not_eq_true, powB_iff]
  rintro ⟨k, hk, rfl⟩
  have : 2 ^ (lo + k) ≤ 2 ^ (lo + (n - 1)) := Nat.pow_le_pow_right (by omega) (by omega)
  omega
/-- A scale that may be: 0; else 10. -/
def scE (b wd : Int) : Int := if powB 6 9 b = true ∧ 1 ≤ wd ∧ wd ≤ 32 then 0 else 10
end P2
end Go.Proofs.Ytjeeakhgjcbhaaa
set_option linter.unusedVariables false
set_option linter.unusedSimpArgs false
namespace Go.Proofs.Ytjeeakhgjcbhaaa
open Go.RowKit Go.Proofs.YtjeeakhgjcbhaaaW.PrintWords Go.Proofs.YtjeeakhgjcbhaaaW Go.Proofs.YtjeeakhgjcbhaaaW.PrintMore
namespace Cr
open Wd Vl Mt PCreateBlocks
/-- A piece length that may be. -/
def goodPL (x : Int) : Bool := P2.powB 6 19 x
/-- What hinders that a metainfo is mapped. -/
def cfault (m : MetaD) : Int := if goodPL m.2.1 = false then 83 else if m.2.2.1.length = 0 then 84 else if m.2.2.1.length > 4096 then 58 else if m.2.2.1.any badLen = true then 85 else if csum m.2.1 m.2.2.1 0 > 65536 then 58 else 0
theorem ret_eq {x y : Int} (h : y = x) : Ending.returned (.int .i64 x) = Ending.returned (.int .i64 y) := by rw [h]
theorem goodPL_ne {x : Int} (h : goodPL x = true) : x ≠ 0 := by
  obtain ⟨k, hk, rfl⟩ := (P2.powB_iff 6 19 x).1 h
  have := Nat.two_pow_pos (6 + k)
  omega
set_option maxHeartbeats 4000000 in
set_option maxRecDepth 100000 in
theorem fault_any (m : MetaD) (cs : List Value) (w : World) (hK : KMeta.K w m cs) (hG : GMeta m) :
    Calls Try.prog 53 #[.agg cs.toArray] w fun e w' => e = .returned (.int .i64 (cfault m)) ∧ Below w.heap.size w w' := by
  obtain ⟨AF, cF, AL, cL, AI, cI, AT, cT, rfl, hF, _⟩ := meta_open hK
  have q1 : m.2.2.1.length * 88 ≤ 140737488351232 := hG.2.1.1
  have HF := Aside0.mk hF
  have HK := Aside0.mk hK
  have HB0 : Aside0 (Below w.heap.size w (w.alloc (.cells #[.string m.1, .int .i64 m.2.1, .slice AF m.2.2.1.length cF, .slice AL m.2.2.2.1.length cL, .slice AI m.2.2.2.2.1.length cI, .slice AT m.2.2.2.2.2.length cT] 46))) := ⟨below_alloc (Below.refl w.heap.size w) (.cells #[.string m.1, .int .i64 m.2.1, .slice AF m.2.2.1.length cF, .slice AL m.2.2.2.1.length cL, .slice AI m.2.2.2.2.1.length cI, .slice AT m.2.2.2.2.2.length cT] 46)⟩
  have HX0 : Aside0 ((w.alloc (.cells #[.string m.1, .int .i64 m.2.1, .slice AF m.2.2.1.length cF, .slice AL m.2.2.2.1.length cL, .slice AI m.2.2.2.2.1.length cI, .slice AT m.2.2.2.2.2.length cT] 46)).heap[w.heap.size]? = some (.cells #[.string m.1, .int .i64 m.2.1, .slice AF m.2.2.1.length cF, .slice AL m.2.2.2.1.length cL, .slice AI m.2.2.2.2.1.length cI, .slice AT m.2.2.2.2.2.length cT] 46)) := ⟨heap_alloc_new w _⟩
  have hx1 : (w.alloc (.cells #[.string m.1, .int .i64 m.2.1, .slice AF m.2.2.1.length cF, .slice AL m.2.2.2.1.length cL, .slice AI m.2.2.2.2.1.length cI, .slice AT m.2.2.2.2.2.length cT] 46)).cell? ⟨w.heap.size, 1, none⟩ = some (.int .i64 m.2.1) := Go.Joins.cell_of_block HX0.out 1
  have hx2 : (w.alloc (.cells #[.string m.1, .int .i64 m.2.1, .slice AF m.2.2.1.length cF, .slice AL m.2.2.2.1.length cL, .slice AI m.2.2.2.2.1.length cI, .slice AT m.2.2.2.2.2.length cT] 46)).cell? ⟨w.heap.size, 2, none⟩ = some (.slice AF m.2.2.1.length cF) := Go.Joins.cell_of_block HX0.out 2
  clear hF hK hG
  go_enter Try.func53, Try.ntmps53
  by_cases hg : goodPL m.2.1 = false
  · have e1 : cfault m = 83 := by unfold cfault; rw [if_pos hg]
    rw [e1]
    by_cases h1 : m.2.1 < 64
    · have b1 : decide (m.2.1 < 64) = true := decide_eq_true h1
      go_wp2
      go_ret
      exact ⟨rfl, HB0.out⟩
    · have b1 : decide (m.2.1 < 64) = false := decide_eq_false h1
      by_cases h2 : m.2.1 > 16777216
      · have b2 : decide (m.2.1 > 16777216) = true := decide_eq_true h2
        go_wp2
        go_ret
        exact ⟨rfl, HB0.out⟩
      · have b2 : decide (m.2.1 > 16777216) = false := decide_eq_false h2
        have b3 := P2.and_pow 6 19 (by omega) (by omega) m.2.1 (by omega) (by omega)
        change _ = !goodPL m.2.1 at b3
        rw [hg] at b3
        go_wp2
        go_ret
        exact ⟨rfl, HB0.out⟩
  · have hg' : goodPL m.2.1 = true := by simpa using hg
    have hpl := goodPL_ne hg'
    have h1 : ¬ m.2.1 < 64 := fun h => hg (P2.powB_lo (lo := 6) (n := 19) h)
    have h2 : ¬ m.2.1 > 16777216 := fun h => hg (P2.powB_hi (lo := 6) (n := 19) h)
    have b1 : decide (m.2.1 < 64) = false := decide_eq_false h1
    have b2 : decide (m.2.1 > 16777216) = false := decide_eq_false h2
    have b3 := P2.and_pow 6 19 (by omega) (by omega) m.2.1 (by omega) (by omega)
    change _ = !goodPL m.2.1 at b3
    rw [hg'] at b3
    by_cases h4 : m.2.2.1.length = 0
    · have e1 : cfault m = 84 := by unfold cfault; rw [if_neg hg, if_pos h4]
      rw [e1]
      have b4 : ((m.2.2.1.length : Int) == 0) = true := by simp [h4]
      clear h4
      go_wp2
      go_ret
      exact ⟨rfl, HB0.out⟩
    · by_cases h5 : m.2.2.1.length > 4096
      · have e1 : cfault m = 58 := by unfold cfault; rw [if_neg hg, if_neg h4, if_pos h5]
        rw [e1]
        go_wp2
        go_ret
        exact ⟨rfl, HB0.out⟩
      · go_wp2_with fail
        go_at_call 81
        refine (seek_any AF cF m.2.2.1 _ (Kd.C_below HF.out HB0.out) q1).mono ?_
        rintro e wr ⟨⟨r, rfl, hr⟩, hb1⟩
        have HX := Aside0.mk (blk_below HX0.out hb1)
        have HB := Aside0.mk (below_step HB0.out hb1)
        clear hx1 hx2 hb1 HX0 HB0
        have hx2 : wr.cell? ⟨w.heap.size, 2, none⟩ = some (.slice AF m.2.2.1.length cF) := Go.Joins.cell_of_block HX.out 2
        cases hany : m.2.2.1.any badLen with
        | true =>
          rw [hany] at hr
          have e1 : cfault m = 85 := by unfold cfault; rw [if_neg hg, if_neg h4, if_neg h5, if_pos hany]
          go_wp2
          go_ret
          exact ⟨ret_eq e1, HB.out⟩
        | false =>
          rw [hany] at hr
          go_upto_region 9 with fail
          refine PrintLast.start_ (n := 7) (S := fun w' => Below wr.heap.size wr w') (ds := []) #[false, false, false, false, false, false, false] (by kernel_rfl) rfl rfl (below_drew1 (Below.refl _ _)) (fun hHeld => ?_)
          generalize wr.drew = W0 at *
          refine PrintLast.pure_ (i := 0) (N := some 37) (v := ?_) (a' := ?_) #[true, false, false, false, false, false, false] rfl rfl (by kernel_rfl) (fun _ _ _ h => h) (Or.inl ⟨by rfl, ?_⟩) ?_ ?_
          rotate_left
          · intro w'
            go_simp
            with_reducible rfl
          rotate_left
          · simp only [Act.put, List.setIfInBounds_toArray, List.set_cons_zero, List.set_cons_succ]
            rfl
          refine PrintLast.take_ (i := 1) (N := some 38) (v := ?_) (a' := ?_) #[true, true, false, false, false, false, false] rfl rfl (by kernel_rfl) (fun _ _ _ h => h) (Or.inl ⟨by rfl, ?_⟩) hHeld ?_ ?_
          rotate_left
          · intro w' s0
            (have g1 := cell_stay s0 hx2; go_simp; with_reducible rfl)
          rotate_left
          · simp only [Act.put, List.setIfInBounds_toArray, List.set_cons_zero, List.set_cons_succ]
            rfl
          refine PrintLast.take_ (i := 2) (N := some 39) (v := .agg (#[.string m.1, .int .i64 m.2.1, .slice AF m.2.2.1.length cF, .slice AL m.2.2.2.1.length cL, .slice AI m.2.2.2.2.1.length cI, .slice AT m.2.2.2.2.2.length cT] : Array Value)) (a' := ?_) #[true, true, true, false, false, false, false] rfl rfl (by kernel_rfl) (fun _ _ _ h => h) (Or.inl ⟨by rfl, ?_⟩) hHeld ?_ ?_
          skip
          · intro w' s0
            exact Fl.exec_load (ty := 46) (x := .tmp 1) (ad := ⟨w.heap.size, 0, none⟩) (cs := (#[.string m.1, .int .i64 m.2.1, .slice AF m.2.2.1.length cF, .slice AL m.2.2.2.1.length cL, .slice AI m.2.2.2.2.1.length cI, .slice AT m.2.2.2.2.2.length cT] : Array Value)) (by rfl) (by rfl) (Fl.run_load (cs := [.string m.1, .int .i64 m.2.1, .slice AF m.2.2.1.length cF, .slice AL m.2.2.2.1.length cL, .slice AI m.2.2.2.2.1.length cI, .slice AT m.2.2.2.2.2.length cT]) (fun j u hj => cell_stay s0 (by rw [Go.WideShapes.add_plain, Go.Joins.cell_of_block HX.out, List.getElem?_toArray, Nat.zero_add]; exact hj)) Try.underlying46 rfl (by kernel_rfl))
          rotate_left
          · simp only [Act.put, List.setIfInBounds_toArray, List.set_cons_zero, List.set_cons_succ]
            rfl
          refine PrintLast.one_ (i := 3) (N := some 40) #[true, true, true, true, false, false, false] rfl rfl (by kernel_rfl) (by decide) (fun K hK => ?_)
          refine PrintLast.goes_ Try.func55 (by kernel_rfl) rfl #[.agg (#[.string m.1, .int .i64 m.2.1, .slice AF m.2.2.1.length cF, .slice AL m.2.2.2.1.length cL, .slice AI m.2.2.2.2.1.length cI, .slice AT m.2.2.2.2.2.length cT] : Array Value)] (by rfl) rfl rfl (by simp only [List.map_toArray, List.map_cons, List.map_nil]; rfl) ?_
          refine (pieces_any m _ _ (KMeta.K_below (below_step HB.out hHeld) HK.out)).mono ?_
          rintro e W1 ⟨rfl, hpc, hst⟩
          have hst1 := below_step hHeld hst
          refine ⟨_, rfl, ?_⟩
          refine hK.out _ _ hst1 (fun hHeld => ?_)
          clear hK K
          refine PrintLast.norm_ (a' := ?_) ?_ ?_
          rotate_left
          · show Act.put _ (some 40) _ = _
            simp only [Act.put, List.setIfInBounds_toArray, List.set_cons_zero, List.set_cons_succ]
            rfl
          clear hst
          obtain ⟨gp, hgp⟩ : ∃ gp, gp = W0.heap.size := ⟨_, rfl⟩
          rw [← hgp] at hpc ⊢
          clear hgp
          refine PrintLast.one_ (i := 4) (N := some 41) #[true, true, true, true, true, false, false] rfl rfl (by kernel_rfl) (by decide) (fun K hK => ?_)
          refine PrintLast.goes_ Try.func54 (by kernel_rfl) rfl #[.slice AF m.2.2.1.length cF, .func (.func 83) #[] #[.pointer (some ⟨gp, 0, none⟩)]] (by rfl) rfl rfl (by simp only [List.map_toArray, List.map_cons, List.map_nil]; rfl) ?_
          refine (sum_any AF cF m.2.2.1 gp m.2.1 _ (Kd.C_below HF.out (below_step HB.out hHeld)) q1 hpc hpl).mono ?_
          rintro e W2 ⟨rfl, hst⟩
          have hst2 := below_step hHeld hst
          refine ⟨_, rfl, ?_⟩
          refine hK.out _ _ hst2 (fun hHeld => ?_)
          clear hK K
          refine PrintLast.norm_ (a' := ?_) ?_ ?_
          rotate_left
          · show Act.put _ (some 41) _ = _
            simp only [Act.put, List.setIfInBounds_toArray, List.set_cons_zero, List.set_cons_succ]
            rfl
          clear hst
          refine PrintLast.pure_ (i := 5) (N := some 42) (v := ?_) (a' := ?_) #[true, true, true, true, true, true, false] rfl rfl (by kernel_rfl) (fun _ _ _ h => h) (Or.inl ⟨by rfl, ?_⟩) ?_ ?_
          rotate_left
          · intro w'
            go_simp
            with_reducible rfl
          rotate_left
          · simp only [Act.put, List.setIfInBounds_toArray, List.set_cons_zero, List.set_cons_succ]
            rfl
          refine PrintLast.pure_ (i := 6) (N := some 36) (v := ?_) (a' := ?_) #[true, true, true, true, true, true, true] rfl rfl (by kernel_rfl) (fun _ _ _ h => h) (Or.inl ⟨by rfl, ?_⟩) ?_ ?_
          rotate_left
          · intro w'
            go_simp
            with_reducible rfl
          rotate_left
          · simp only [Act.put, List.setIfInBounds_toArray, List.set_cons_zero, List.set_cons_succ]
            rfl
          refine PrintLast.done_ (by kernel_rfl) ?_
          by_cases h6 : csum m.2.1 m.2.2.1 0 > 65536
          · have e1 : cfault m = 58 := by unfold cfault; rw [if_neg hg, if_neg h4, if_neg h5, if_neg (by rw [hany]; exact Bool.false_ne_true), if_pos h6]
            have b6 : decide (csum m.2.1 m.2.2.1 0 > 65536) = true := decide_eq_true h6
            go_wp2
            go_ret
            exact ⟨by first | exact ret_eq e1 | rfl, below_step HB.out hHeld⟩
          · have e1 : cfault m = 0 := by unfold cfault; rw [if_neg hg, if_neg h4, if_neg h5, if_neg (by rw [hany]; exact Bool.false_ne_true), if_neg h6]
            have b6 : decide (csum m.2.1 m.2.2.1 0 > 65536) = false := decide_eq_false h6
            go_wp2
            go_ret
            exact ⟨by first | exact ret_eq e1 | rfl, below_step HB.out hHeld⟩
end Cr
end Go.Proofs.Ytjeeakhgjcbhaaa
set_option linter.unusedVariables false
set_option linter.unusedSimpArgs false
namespace Go.Proofs.Ytjeeakhgjcbhaaa
open Go.RowKit Go.Proofs.YtjeeakhgjcbhaaaW.PrintWords Go.Proofs.YtjeeakhgjcbhaaaW Go.Proofs.YtjeeakhgjcbhaaaW.PrintMore
namespace Cr
open Wd Vl Mt PCreateBlocks
theorem pieceLen_go (x : Int) : ∀ (n lo : Nat), lo + n = 25 → 0 < lo → torrentref9_pieceLen.l0 (n + 1) x ((2 ^ lo : Nat) : Int) = some (P2.powB lo n x)
  | 0, lo, h, _ => by
    obtain rfl : lo = 25 := by omega
    have hb : P2.powB 25 0 x = false := rfl
    rw [hb]
    unfold torrentref9_pieceLen.l0
    rw [if_neg (by decide)]
  | n + 1, lo, h, h0 => by
    have hle : 2 ^ lo ≤ 2 ^ 24 := Nat.pow_le_pow_right (by omega) (by omega)
    have hnext : wrap64 (2 * ((2 ^ lo : Nat) : Int)) = ((2 ^ (lo + 1) : Nat) : Int) := by
      rw [Nat.pow_succ]; unfold wrap64; omega
    unfold torrentref9_pieceLen.l0
    rw [if_pos (by omega)]
    by_cases hx : x = ((2 ^ lo : Nat) : Int)
    · rw [if_pos hx]
      exact congrArg some ((P2.powB_iff lo (n + 1) x).2 ⟨0, by omega, hx⟩).symm
    · rw [if_neg hx, hnext, pieceLen_go x n (lo + 1) (by omega) (by omega)]
      refine congrArg some ?_
      rw [Bool.eq_iff_iff, P2.powB_iff, P2.powB_iff]
      constructor
      · rintro ⟨k, hk, rfl⟩
        exact ⟨k + 1, by omega, by rw [show lo + (k + 1) = lo + 1 + k by omega]⟩
      · rintro ⟨k, hk, he⟩
        cases k with
        | zero => exact absurd he hx
        | succ k => exact ⟨k, by omega, by rw [he, show lo + (k + 1) = lo + 1 + k by omega]⟩
theorem pieceLen_spec (x : Int) : torrentref9_pieceLen.f 20 x = some (goodPL x) := pieceLen_go x 19 6 rfl (by omega)
theorem goodPL_pos {x : Int} (h : goodPL x = true) : 0 < x := by
  obtain ⟨k, hk, rfl⟩ := (P2.powB_iff 6 19 x).1 h
  have := Nat.two_pow_pos (6 + k)
  omega
theorem parts_spec {n pl : Int} (hn : 0 ≤ n) (hp : 0 < pl) : torrentref9_parts.f n pl = some (cP n pl) := by
  have hm : 0 ≤ Int.tmod n pl := Int.tmod_nonneg _ hn
  unfold torrentref9_parts.f cP mn
  rw [if_neg (by omega)]
  generalize Int.tmod n pl = r at *
  by_cases h : r > 0
  · rw [if_pos h]
    by_cases h1 : 1 < r
    · rw [if_pos h1]
    · rw [if_neg h1, show r = 1 by omega]
  · rw [if_neg h, if_neg (by omega), show r = 0 by omega]
    congr 1
    unfold wrap64
    omega
set_option maxHeartbeats 4000000 in
set_option maxRecDepth 100000 in
theorem refFault_any (m : MetaD) (cs : List Value) (w : World) (hK : KMeta.K w m cs) (hG : GMeta m) :
    Calls Try.prog 56 #[.agg cs.toArray] w fun e w' => e = .returned (.int .i64 (cfault m)) ∧ Below w.heap.size w w' := by
  obtain ⟨AF, cF, AL, cL, AI, cI, AT, cT, rfl, hF, _⟩ := meta_open hK
  have q1 : m.2.2.1.length * 88 ≤ 140737488351232 := hG.2.1.1
  have HF := Aside0.mk hF
  have HB0 : Aside0 (Below w.heap.size w (w.alloc (.cells #[.string m.1, .int .i64 m.2.1, .slice AF m.2.2.1.length cF, .slice AL m.2.2.2.1.length cL, .slice AI m.2.2.2.2.1.length cI, .slice AT m.2.2.2.2.2.length cT] 46))) := ⟨below_alloc (Below.refl w.heap.size w) (.cells #[.string m.1, .int .i64 m.2.1, .slice AF m.2.2.1.length cF, .slice AL m.2.2.2.1.length cL, .slice AI m.2.2.2.2.1.length cI, .slice AT m.2.2.2.2.2.length cT] 46)⟩
  have HX0 : Aside0 ((w.alloc (.cells #[.string m.1, .int .i64 m.2.1, .slice AF m.2.2.1.length cF, .slice AL m.2.2.2.1.length cL, .slice AI m.2.2.2.2.1.length cI, .slice AT m.2.2.2.2.2.length cT] 46)).heap[w.heap.size]? = some (.cells #[.string m.1, .int .i64 m.2.1, .slice AF m.2.2.1.length cF, .slice AL m.2.2.2.1.length cL, .slice AI m.2.2.2.2.1.length cI, .slice AT m.2.2.2.2.2.length cT] 46)) := ⟨heap_alloc_new w _⟩
  have hx1 : (w.alloc (.cells #[.string m.1, .int .i64 m.2.1, .slice AF m.2.2.1.length cF, .slice AL m.2.2.2.1.length cL, .slice AI m.2.2.2.2.1.length cI, .slice AT m.2.2.2.2.2.length cT] 46)).cell? ⟨w.heap.size, 1, none⟩ = some (.int .i64 m.2.1) := Go.Joins.cell_of_block HX0.out 1
  clear hF hK hG
  go_enter Try.func56, Try.ntmps56
  go_wp2_with fail
  go_at_call 84
  refine (torrentref9_pieceLen.calls 20 m.2.1 (goodPL m.2.1) _ (pieceLen_spec m.2.1)).mono ?_
  rintro e w1 ⟨rfl, q, rfl⟩
  have HX : Aside0 (((w.alloc (.cells #[.string m.1, .int .i64 m.2.1, .slice AF m.2.2.1.length cF, .slice AL m.2.2.2.1.length cL, .slice AI m.2.2.2.2.1.length cI, .slice AT m.2.2.2.2.2.length cT] 46)).drewN q).heap[w.heap.size]? = some (.cells #[.string m.1, .int .i64 m.2.1, .slice AF m.2.2.1.length cF, .slice AL m.2.2.2.1.length cL, .slice AI m.2.2.2.2.1.length cI, .slice AT m.2.2.2.2.2.length cT] 46)) := ⟨blk_drewN HX0.out q⟩
  have HB : Aside0 (Below w.heap.size w ((w.alloc (.cells #[.string m.1, .int .i64 m.2.1, .slice AF m.2.2.1.length cF, .slice AL m.2.2.2.1.length cL, .slice AI m.2.2.2.2.1.length cI, .slice AT m.2.2.2.2.2.length cT] 46)).drewN q)) := ⟨below_drewN HB0.out q⟩
  clear hx1 HX0 HB0
  generalize (w.alloc (.cells #[.string m.1, .int .i64 m.2.1, .slice AF m.2.2.1.length cF, .slice AL m.2.2.2.1.length cL, .slice AI m.2.2.2.2.1.length cI, .slice AT m.2.2.2.2.2.length cT] 46)).drewN q = wr at *
  have hx2 : wr.cell? ⟨w.heap.size, 2, none⟩ = some (.slice AF m.2.2.1.length cF) := Go.Joins.cell_of_block HX.out 2
  cases hg : goodPL m.2.1 with
  | false =>
    have e1 : cfault m = 83 := by unfold cfault; rw [if_pos hg]
    go_wp2
    go_ret
    exact ⟨by first | exact ret_eq e1 | rfl, HB.out⟩
  | true =>
    have hg' : ¬ goodPL m.2.1 = false := by rw [hg]; decide
    have hpp := goodPL_pos hg
    by_cases h4 : m.2.2.1.length = 0
    · have e1 : cfault m = 84 := by unfold cfault; rw [if_neg hg', if_pos h4]
      have b4 : ((m.2.2.1.length : Int) == 0) = true := by simp [h4]
      clear h4
      go_wp2
      go_ret
      exact ⟨by first | exact ret_eq e1 | rfl, HB.out⟩
    · by_cases h5 : m.2.2.1.length > 4096
      · have e1 : cfault m = 58 := by unfold cfault; rw [if_neg hg', if_neg h4, if_pos h5]
        go_wp2
        go_ret
        exact ⟨by first | exact ret_eq e1 | rfl, HB.out⟩
      · go_wp2
        go_loopw [4, 5] (fun s i wz => ∃ k : Nat, k ≤ m.2.2.1.length ∧ i = .int .i64 k ∧ s = .int .i64 (csum m.2.1 (m.2.2.1.take k) 0) ∧ Hid (∀ f ∈ m.2.2.1.take k, badLen f = false) ∧ Aside0 (wz.heap[w.heap.size]? = some (.cells #[.string m.1, .int .i64 m.2.1, .slice AF m.2.2.1.length cF, .slice AL m.2.2.2.1.length cL, .slice AI m.2.2.2.2.1.length cI, .slice AT m.2.2.2.2.2.length cT] 46)) ∧ Aside0 (Below w.heap.size w wz)) (fun s i _ => m.2.2.1.length - (intOf i).toNat)
        case atStart => exact ⟨0, by omega, rfl, rfl, Lib.hid (by simp), HX, HB⟩
        case round =>
          clear HX HB hx2
          obtain ⟨k, hk, rfl, rfl, HN, HX, HB⟩ := hrel
          have hx1 : wr.cell? ⟨w.heap.size, 1, none⟩ = some (.int .i64 m.2.1) := Go.Joins.cell_of_block HX.out 1
          have hx2 : wr.cell? ⟨w.heap.size, 2, none⟩ = some (.slice AF m.2.2.1.length cF) := Go.Joins.cell_of_block HX.out 2
          by_cases hlt : k < m.2.2.1.length
          · have hmem : m.2.2.1.getD k f0 ∈ m.2.2.1 := nth_mem f0 m.2.2.1 k hlt
            have htk : m.2.2.1.take (k + 1) = m.2.2.1.take k ++ [m.2.2.1.getD k f0] := by rw [List.take_succ_eq_append_getElem hlt, List.getD_eq_getElem?_getD, List.getElem?_eq_getElem hlt]; rfl
            have hcs1 := csum_take m.2.1 m.2.2.1 k 0 hlt
            obtain ⟨ad, cs, e0, hl35, hfk, hcs⟩ := at_file HF.out k hlt
            rw [e0] at hx2
            change KFile.K w (m.2.2.1.getD k f0) cs at hfk
            generalize m.2.2.1.getD k f0 = f at *
            have hy1 : wr.cell? ⟨(ad.add (k * 35)).block, (ad.add (k * 35)).off + 1, none⟩ = some (.int .i64 f.2.1) := cell_stay HB.out (Fl.fcell 1 (by omega) (hcs 1 _ (by obtain ⟨P, p, MM, q, rfl, _⟩ := file_open hfk; rfl)))
            have HMM := Lib.hid hmem
            have HTT := Lib.hid htk
            have HCS := Lib.hid hcs1
            clear hmem htk hcs1 e0 hl35 hfk hcs
            by_cases h6 : f.2.1 < 0
            · have b6 : decide (f.2.1 < 0) = true := decide_eq_true h6
              have e1 : cfault m = 85 := by
                unfold cfault
                rw [if_neg hg', if_neg h4, if_neg h5, if_pos (List.any_eq_true.2 ⟨f, HMM.out, by unfold badLen; rw [b6]; rfl⟩)]
              go_wp2
              go_ret
              exact ⟨by first | exact ret_eq e1 | rfl, HB.out⟩
            · have b6 : decide (f.2.1 < 0) = false := decide_eq_false h6
              by_cases h7 : f.2.1 > 1099511627776
              · have b7 : decide (f.2.1 > 1099511627776) = true := decide_eq_true h7
                have e1 : cfault m = 85 := by
                  unfold cfault
                  rw [if_neg hg', if_neg h4, if_neg h5, if_pos (List.any_eq_true.2 ⟨f, HMM.out, by unfold badLen; rw [b7]; simp⟩)]
                go_wp2
                go_ret
                exact ⟨by first | exact ret_eq e1 | rfl, HB.out⟩
              · have b7 : decide (f.2.1 > 1099511627776) = false := decide_eq_false h7
                have HPA : Hid (∀ W, Calls Try.prog 85 #[.int .i64 f.2.1, .int .i64 m.2.1] W fun e w' => e = .returned (.int .i64 (cP f.2.1 m.2.1)) ∧ ∃ k, w' = W.drewN k) := Lib.hid fun W => (torrentref9_parts.calls f.2.1 m.2.1 _ W (parts_spec (by omega) hpp)).mono fun e w' h => by obtain ⟨h1, k, h2⟩ := h; exact ⟨h1, k, h2⟩
                go_upto_region 14 with fail
                go_quiet ((go_at_call 85; exact Calls.quiet_of (HPA.out _)))
                go_wp2
                go_roundw
                case rel => exact ⟨k + 1, by omega, by go_num, by rw [HCS.out], Lib.hid (by rw [HTT.out]; intro x hx; rcases List.mem_append.1 hx with hx | hx; exact HN.out x hx; rw [List.mem_singleton.1 hx]; unfold badLen; rw [b6, b7]; rfl), ⟨blk_drewN HX.out _⟩, ⟨below_drewN HB.out _⟩⟩
                case measure => simp [intOf]; omega
          · have ek : k = m.2.2.1.length := by omega
            have hany : m.2.2.1.any badLen = false := List.any_eq_false.2 fun x hx => by
              have h := HN.out x (by rw [ek, List.take_length]; exact hx)
              rw [h]; exact Bool.false_ne_true
            have ht : m.2.2.1.take k = m.2.2.1 := by rw [ek, List.take_length]
            rw [ht]
            by_cases h6 : csum m.2.1 m.2.2.1 0 > 65536
            · have b6 : decide (csum m.2.1 m.2.2.1 0 > 65536) = true := decide_eq_true h6
              have e1 : cfault m = 58 := by unfold cfault; rw [if_neg hg', if_neg h4, if_neg h5, if_neg (by rw [hany]; exact Bool.false_ne_true), if_pos h6]
              go_wp2
              go_ret
              exact ⟨by first | exact ret_eq e1 | rfl, HB.out⟩
            · have b6 : decide (csum m.2.1 m.2.2.1 0 > 65536) = false := decide_eq_false h6
              have e1 : cfault m = 0 := by unfold cfault; rw [if_neg hg', if_neg h4, if_neg h5, if_neg (by rw [hany]; exact Bool.false_ne_true), if_neg h6]
              go_wp2
              go_ret
              exact ⟨by first | exact ret_eq e1 | rfl, HB.out⟩
end Cr
end Go.Proofs.Ytjeeakhgjcbhaaa
set_option linter.unusedVariables false
set_option linter.unusedSimpArgs false
namespace Go.Proofs.Ytjeeakhgjcbhaaa
open Go.RowKit Go.Proofs.YtjeeakhgjcbhaaaW.PrintWords Go.Proofs.YtjeeakhgjcbhaaaW Go.Proofs.YtjeeakhgjcbhaaaW.PrintMore
namespace Cr
open Wd Vl Mt
/-- A place: the file, which of its pieces, its first byte, its length. -/
abbrev PlD := Int × Int × Int × Int
/-- How many pieces a file has. -/
def cN (len pl : Int) : Nat := ((len + pl - 1) / pl).toNat
theorem lt_cN {len pl : Int} (hp : 0 < pl) (j : Nat) : j < cN len pl ↔ (j : Int) * pl < len := by
  have h := Int.le_ediv_iff_mul_le (a := (j : Int) + 1) (b := len + pl - 1) hp
  rw [Int.add_mul, Int.one_mul] at h
  unfold cN
  omega
def mkP (i : Int) (n : Nat) (pl len : Int) : PlD := (i, n, n * pl, if len - n * pl > pl then pl else len - n * pl)
def fpl (i pl len : Int) : List PlD := (List.range (cN len pl)).map fun n => mkP i n pl len
def pls (pl : Int) : List FileD → Int → List PlD
  | [], _ => []
  | f :: l, i => fpl i pl f.2.1 ++ pls pl l (i + 1)
theorem fpl_len (i pl len : Int) : (fpl i pl len).length = cN len pl := by unfold fpl; rw [List.length_map, List.length_range]
theorem pls_take (pl : Int) : ∀ (l : List FileD) (i : Int) (k : Nat), k < l.length → pls pl (l.take (k + 1)) i = pls pl (l.take k) i ++ fpl (i + k) pl (l.getD k f0).2.1
  | [], _, _, h => by simp at h
  | f :: l, i, 0, h => by simp [pls]
  | f :: l, i, k + 1, h => by
    have := pls_take pl l (i + 1) k (by simpa using h)
    simp only [List.take_succ_cons, pls, List.getD_cons_succ]
    rw [this, List.append_assoc]
    congr 3
    omega
/-- Lengths that may be. -/
def LensOk (fs : List FileD) : Prop := ∀ f ∈ fs, 0 ≤ f.2.1 ∧ f.2.1 ≤ 1099511627776
theorem cP_cN {len pl : Int} (h0 : 0 ≤ len) (h1 : len ≤ 1099511627776) (hp : 64 ≤ pl) : cP len pl = cN len pl ∧ cN len pl ≤ 17179869184 := by
  have hd := Int.tdiv_eq_ediv_of_nonneg (b := pl) h0
  have hm := Int.tmod_eq_emod_of_nonneg (b := pl) h0
  have e := Int.mul_ediv_add_emod len pl
  have m0 := Int.emod_nonneg len (show pl ≠ 0 by omega)
  have m1 := Int.emod_lt_of_pos len (show 0 < pl by omega)
  have q0 : 0 ≤ len / pl := Int.ediv_nonneg h0 (by omega)
  have q1 : len / pl * 64 + len % pl ≤ len := by
    have : len / pl * 64 ≤ len / pl * pl := Int.mul_le_mul_of_nonneg_left hp q0
    have h3 : len / pl * pl = pl * (len / pl) := Int.mul_comm _ _
    omega
  have hc : (len + pl - 1) / pl = len / pl + (if len % pl = 0 then 0 else 1) := by
    have e2 : len + pl - 1 = (len % pl + pl - 1) + pl * (len / pl) := by omega
    rw [e2, Int.add_mul_ediv_left _ _ (show pl ≠ 0 by omega)]
    by_cases hz : len % pl = 0
    · rw [if_pos hz, hz, show (0 + pl - 1) / pl = 0 from Int.ediv_eq_zero_of_lt (by omega) (by omega)]; omega
    · rw [if_neg hz]
      have : (len % pl + pl - 1) / pl = 1 := by
        rw [show len % pl + pl - 1 = (len % pl - 1) + pl * 1 by omega, Int.add_mul_ediv_left _ _ (show pl ≠ 0 by omega), Int.ediv_eq_zero_of_lt (by omega) (by omega)]
        omega
      omega
  unfold cP cN mn
  rw [hd, hm, hc]
  generalize len / pl = q at *
  generalize len % pl = r at *
  by_cases hz : r = 0
  · subst hz
    rw [if_neg (by omega), if_pos rfl]
    unfold wrap64
    omega
  · rw [if_neg hz]
    by_cases h1r : 1 < r
    · rw [if_pos h1r]; unfold wrap64; omega
    · rw [if_neg h1r, show r = 1 by omega]; unfold wrap64; omega
theorem csum_pls {pl : Int} (hp : 64 ≤ pl) : ∀ (l : List FileD) (s : Nat) (i : Int), LensOk l → s + l.length * 17179869184 ≤ 9223372036854775807 → csum pl l s = ((s + (pls pl l i).length : Nat) : Int) ∧ (pls pl l i).length ≤ l.length * 17179869184
  | [], s, i, _, _ => by simp [csum, pls]
  | f :: l, s, i, hl, hs => by
    have hf := hl f List.mem_cons_self
    obtain ⟨h1, h2⟩ := cP_cN hf.1 hf.2 hp
    rw [List.length_cons, Nat.succ_mul] at hs
    have hw : wrap64 ((s : Int) + cP f.2.1 pl) = ((s + cN f.2.1 pl : Nat) : Int) := by rw [h1]; unfold wrap64; omega
    obtain ⟨h3, h4⟩ := csum_pls hp l (s + cN f.2.1 pl) (i + 1) (fun g hg => hl g (List.mem_cons_of_mem _ hg)) (by omega)
    simp only [csum, pls, List.length_append, fpl_len, List.length_cons, Nat.succ_mul]
    rw [hw, h3]
    exact ⟨by congr 1; omega, by omega⟩
theorem goodPL_ge {x : Int} (h : goodPL x = true) : 64 ≤ x ∧ x ≤ 16777216 := by
  obtain ⟨k, hk, rfl⟩ := (P2.powB_iff 6 19 x).1 h
  have h1 : 2 ^ 6 ≤ 2 ^ (6 + k) := Nat.pow_le_pow_right (by omega) (by omega)
  have h2 : 2 ^ (6 + k) ≤ 2 ^ 24 := Nat.pow_le_pow_right (by omega) (by omega)
  omega
/-- What a metainfo that can be mapped is. -/
theorem cfault_ok {m : MetaD} (h : cfault m = 0) : (64 ≤ m.2.1 ∧ m.2.1 ≤ 16777216) ∧ 0 < m.2.2.1.length ∧ m.2.2.1.length ≤ 4096 ∧ LensOk m.2.2.1 ∧ csum m.2.1 m.2.2.1 0 = ((pls m.2.1 m.2.2.1 0).length : Int) ∧ (pls m.2.1 m.2.2.1 0).length ≤ 65536 := by
  unfold cfault at h
  by_cases hg : goodPL m.2.1 = false
  · rw [if_pos hg] at h; omega
  · rw [if_neg hg] at h
    have hg' := goodPL_ge (by simpa using hg)
    by_cases h1 : m.2.2.1.length = 0
    · rw [if_pos h1] at h; omega
    · rw [if_neg h1] at h
      by_cases h2 : m.2.2.1.length > 4096
      · rw [if_pos h2] at h; omega
      · rw [if_neg h2] at h
        by_cases h3 : m.2.2.1.any badLen = true
        · rw [if_pos h3] at h; omega
        · rw [if_neg h3] at h
          by_cases h4 : csum m.2.1 m.2.2.1 0 > 65536
          · rw [if_pos h4] at h; omega
          · have hL : LensOk m.2.2.1 := fun f hf => by
              have h5 := List.any_eq_false.1 (by simpa using h3) f hf
              unfold badLen at h5
              simp at h5
              omega
            have h6 := csum_pls hg'.1 m.2.2.1 0 0 hL (by omega)
            rw [Nat.zero_add] at h6
            have h7 : csum m.2.1 m.2.2.1 0 = ((pls m.2.1 m.2.2.1 0).length : Int) := h6.1
            exact ⟨hg', by omega, by omega, hL, h7, by omega⟩
end Cr
end Go.Proofs.Ytjeeakhgjcbhaaa
set_option linter.unusedVariables false
set_option linter.unusedSimpArgs false
namespace Go.Proofs.Ytjeeakhgjcbhaaa
open Go.RowKit Go.Proofs.YtjeeakhgjcbhaaaW.PrintWords Go.Proofs.YtjeeakhgjcbhaaaW Go.Proofs.YtjeeakhgjcbhaaaW.PrintMore
namespace Cr
open Wd Vl Mt
def encPl (p : PlD) : List Value := [.int .i64 p.1, .int .i64 p.2.1, .int .i64 p.2.2.1, .int .i64 p.2.2.2]
theorem encPl_len (p : PlD) : (encPl p).length = 4 := rfl
theorem encPl_one (p : PlD) : ∀ u ∈ encPl p, u.oneCell' = true := by
  intro u hu
  simp [encPl] at hu
  rcases hu with rfl | rfl | rfl | rfl <;> rfl
/-- A place that is read or made. -/
def KPl : Kd PlD := Fl.flat encPl 4 encPl_len encPl_one
theorem infoPl : (Try.prog.info? 53).map (fun i => (i.zero, i.size, i.bytes)) = some (some (.agg ((encPl (0, 0, 0, 0)).toArray)), 4, 32) := by kernel_rfl
theorem pls_le (pl : Int) : ∀ (l : List FileD) (k : Nat) (i : Int), (pls pl (l.take k) i).length ≤ (pls pl l i).length
  | [], k, i => by simp
  | f :: l, 0, i => by simp [pls]
  | f :: l, k + 1, i => by
    have := pls_le pl l k (i + 1)
    simp only [List.take_succ_cons, pls, List.length_append]
    omega
set_option maxHeartbeats 4000000 in
set_option maxRecDepth 100000 in
theorem refPlaces_any (m : MetaD) (cs : List Value) (w : World) (hK : KMeta.K w m cs) (hG : GMeta m) (hf : cfault m = 0) :
    Calls Try.prog 57 #[.agg cs.toArray] w fun e w' => ∃ A c, e = .returned (.slice A (pls m.2.1 m.2.2.1 0).length c) ∧ KPl.C w' A (pls m.2.1 m.2.2.1 0).length (pls m.2.1 m.2.2.1 0) ∧ Below w.heap.size w w' := by
  obtain ⟨AF, cF, AL, cL, AI, cI, AT, cT, rfl, hF, _⟩ := meta_open hK
  have q1 : m.2.2.1.length * 88 ≤ 140737488351232 := hG.2.1.1
  obtain ⟨⟨p1, p2⟩, _, _, hL, _, hT⟩ := cfault_ok hf
  have HF := Aside0.mk hF
  have HLO := Lib.hid hL
  have HX0 : Aside0 ((w.alloc (.cells #[.string m.1, .int .i64 m.2.1, .slice AF m.2.2.1.length cF, .slice AL m.2.2.2.1.length cL, .slice AI m.2.2.2.2.1.length cI, .slice AT m.2.2.2.2.2.length cT] 46)).heap[w.heap.size]? = some (.cells #[.string m.1, .int .i64 m.2.1, .slice AF m.2.2.1.length cF, .slice AL m.2.2.2.1.length cL, .slice AI m.2.2.2.2.1.length cI, .slice AT m.2.2.2.2.2.length cT] 46)) := ⟨heap_alloc_new w _⟩
  have HB0 : Aside0 (Below w.heap.size w (w.alloc (.cells #[.string m.1, .int .i64 m.2.1, .slice AF m.2.2.1.length cF, .slice AL m.2.2.2.1.length cL, .slice AI m.2.2.2.2.1.length cI, .slice AT m.2.2.2.2.2.length cT] 46))) := ⟨below_alloc (Below.refl w.heap.size w) (.cells #[.string m.1, .int .i64 m.2.1, .slice AF m.2.2.1.length cF, .slice AL m.2.2.2.1.length cL, .slice AI m.2.2.2.2.1.length cI, .slice AT m.2.2.2.2.2.length cT] 46)⟩
  have HTO := Lib.hid hT
  clear hF hK hG hf hL hT
  go_enter Try.func57, Try.ntmps57
  go_wp2
  go_loopw [3, 4] (fun v i wz => ∃ k : Nat, k ≤ m.2.2.1.length ∧ i = .int .i64 k ∧ Aside0 (KPl.R 53 wz w.heap.size (fun _ => True) v (pls m.2.1 (m.2.2.1.take k) 0)) ∧ Aside0 (wz.heap[w.heap.size]? = some (.cells #[.string m.1, .int .i64 m.2.1, .slice AF m.2.2.1.length cF, .slice AL m.2.2.2.1.length cL, .slice AI m.2.2.2.2.1.length cI, .slice AT m.2.2.2.2.2.length cT] 46)) ∧ Aside0 (Below w.heap.size w wz)) (fun v i _ => m.2.2.1.length - (intOf i).toNat)
  case atStart => exact ⟨0, by omega, rfl, ⟨Kd.R_nil _ _ _ _ _⟩, HX0, HB0⟩
  case round =>
    clear HX0 HB0
    obtain ⟨k, hk, rfl, HO, HX, HB⟩ := hrel
    have hx2 : wr.cell? ⟨w.heap.size, 2, none⟩ = some (.slice AF m.2.2.1.length cF) := Go.Joins.cell_of_block HX.out 2
    by_cases hlt : k < m.2.2.1.length
    · have hmem : m.2.2.1.getD k f0 ∈ m.2.2.1 := nth_mem f0 m.2.2.1 k hlt
      have htk := pls_take m.2.1 m.2.2.1 0 k hlt
      have hle := Nat.le_trans (pls_le m.2.1 m.2.2.1 (k + 1) 0) HTO.out
      rw [htk, List.length_append, fpl_len] at hle
      rw [Int.zero_add] at htk
      obtain ⟨ad, cs, e0, hl35, hfk, hcs⟩ := at_file HF.out k hlt
      have E0 := Lib.hid e0
      change KFile.K w (m.2.2.1.getD k f0) cs at hfk
      have hlen := HLO.out _ hmem
      generalize m.2.2.1.getD k f0 = f at *
      have HY : Hid (∀ wz, Below w.heap.size w wz → wz.cell? ⟨(ad.add (k * 35)).block, (ad.add (k * 35)).off + 1, none⟩ = some (.int .i64 f.2.1)) := Lib.hid fun wz h => cell_stay h (Fl.fcell 1 (by omega) (hcs 1 _ (by obtain ⟨P, p, MM, q, rfl, _⟩ := file_open hfk; rfl)))
      have HTK := Lib.hid htk
      clear hmem htk e0 hl35 hfk hcs
      generalize f.2.1 = len at *
      obtain ⟨L, hL⟩ : ∃ L, L = pls m.2.1 (m.2.2.1.take k) 0 := ⟨_, rfl⟩
      rw [← hL] at HO HTK hle
      go_wp2
      go_loopw [3, 5, 6] (fun v n a wz => ∃ j : Nat, j ≤ cN len m.2.1 ∧ n = .int .i64 j ∧ a = .int .i64 (j * m.2.1) ∧ Aside0 (KPl.R 53 wz w.heap.size (fun _ => True) v (L ++ (List.range j).map fun q => mkP k q m.2.1 len)) ∧ Aside0 (wz.heap[w.heap.size]? = some (.cells #[.string m.1, .int .i64 m.2.1, .slice AF m.2.2.1.length cF, .slice AL m.2.2.2.1.length cL, .slice AI m.2.2.2.2.1.length cI, .slice AT m.2.2.2.2.2.length cT] 46)) ∧ Aside0 (Below w.heap.size w wz)) (fun v n a _ => cN len m.2.1 - (intOf n).toNat)
      case atStart => exact ⟨0, by omega, rfl, by simp, ⟨by simpa using HO.out⟩, HX, HB⟩
      case round =>
        clear HO HX HB hx2
        obtain ⟨j, hj, rfl, rfl, HO, HX, HB⟩ := hrel
        have hx1 : wr.cell? ⟨w.heap.size, 1, none⟩ = some (.int .i64 m.2.1) := Go.Joins.cell_of_block HX.out 1
        have hx2 : wr.cell? ⟨w.heap.size, 2, none⟩ = some (.slice AF m.2.2.1.length cF) := Go.Joins.cell_of_block HX.out 2
        rw [E0.out] at hx2
        have hy1 := HY.out wr HB.out
        have hlt2 := lt_cN (len := len) (show 0 < m.2.1 by omega) j
        have ha0 : 0 ≤ (j : Int) * m.2.1 := Int.mul_nonneg (by omega) (by omega)
        have HA : Hid ((j : Int) * m.2.1 < len → wrap64 ((j : Int) * m.2.1 + m.2.1) = ((j + 1 : Nat) : Int) * m.2.1) := Lib.hid fun h => by
          rw [Int.natCast_add, Int.add_mul]
          unfold wrap64
          omega
        by_cases hjc : j < cN len m.2.1
        · have hja := hlt2.1 hjc
          replace HA := Lib.hid (HA.out hja)
          obtain ⟨a, ha⟩ : ∃ a, a = (j : Int) * m.2.1 := ⟨_, rfl⟩
          rw [← ha] at hja ha0 HA ⊢
          have HAE := Lib.hid ha
          clear ha
          have b1 : decide (a < len) = true := decide_eq_true hja
          have hw : wrap64 (len - a) = len - a := by unfold wrap64; omega
          have HNE := Lib.hid (Kd.R_ne HO.out HX.out (by decide))
          have HLEN : Hid (((L ++ (List.range j).map fun q => mkP k q m.2.1 len).length + 1) * 32 ≤ 140737488351232) := Lib.hid (by rw [List.length_append, List.length_map, List.length_range]; omega)
          clear hlt2
          by_cases hbig : len - a > m.2.1
          · have b2 : decide (len - a > m.2.1) = true := decide_eq_true hbig
            have HT : Hid (L ++ (List.range (j + 1)).map (fun q => mkP k q m.2.1 len) = (L ++ (List.range j).map fun q => mkP k q m.2.1 len) ++ [((k : Int), (j : Int), a, m.2.1)]) := Lib.hid (by rw [List.range_succ, List.map_append, ← List.append_assoc]; congr 1; show [mkP k j m.2.1 len] = _; unfold mkP; rw [← HAE.out, if_pos hbig])
            have HA2 : Hid (a + m.2.1 = ((j + 1 : Nat) : Int) * m.2.1) := Lib.hid (by rw [HAE.out, Int.natCast_add, Int.add_mul]; first | omega | simp)
            go_wp2_with (first | ((with_reducible refine Fl.wpList_build_to rfl 53 _ rfl (#[.int .i64 (k : Int), .int .i64 (j : Int), .int .i64 a, .int .i64 (m.2.1)]) ?bf ?_); (case bf => kernel_rfl)) | ((with_reducible refine Fl.wpList_lit_one rfl 101 53 (.tmp 46) rfl (encPl ((k : Int), (j : Int), a, m.2.1)).toArray ?tx Try.underlying101 (.agg (encPl (0, 0, 0, 0)).toArray) ?ti ?tp ?ts ?_); (case tx => rfl); (case ti => exact (by kernel_rfl)); (case tp => rfl); (case ts => rfl)) | (at_builtin; go_loud (refine Kd.R_append KPl (w0 := w) w.heap.size rfl (.tmp 41) (.tmp 47) 101 53 (.agg (encPl (0, 0, 0, 0)).toArray) 32 rfl Try.underlying101 infoPl rfl (by decide) (by omega) u3 ((L ++ (List.range j).map fun q => mkP k q m.2.1 len)) (((k : Int), (j : Int), a, m.2.1)) (encPl ((k : Int), (j : Int), a, m.2.1)) (fun _ => True) (fun _ => False) rfl rfl ?aP (fun _ h => h.elim) ?aF ?aO ?aB ?aS ?aL ?_); (case aP => exact rfl); (case aB => exact HB.out); (case aF => exact (fun _ _ => trivial)); (case aO => exact HO.out); (case aS => exact below_size HB.out); (case aL => have := HLEN.out; omega); intro v1 wq ho hb hg hat; rw [← HT.out] at ho; have HO1 := Aside0.mk ho; have HB1 := Aside0.mk hb; have HX1 := Aside0.mk (blk_grown HX.out hg HNE.out); have hx1q : wq.cell? ⟨w.heap.size, 1, none⟩ = some (.int .i64 m.2.1) := Go.Joins.cell_of_block HX1.out 1; clear ho hb hg hat HB HO))
            go_roundw
            case rel => exact ⟨j + 1, by omega, by go_num, by first | exact congrArg (Value.int .i64) HA2.out | exact congrArg (Value.int .i64) HA.out, HO1, HX1, HB1⟩
            case measure => simp [intOf]; omega
          · have b2 : decide (len - a > m.2.1) = false := decide_eq_false hbig
            have HT : Hid (L ++ (List.range (j + 1)).map (fun q => mkP k q m.2.1 len) = (L ++ (List.range j).map fun q => mkP k q m.2.1 len) ++ [((k : Int), (j : Int), a, (len - a))]) := Lib.hid (by rw [List.range_succ, List.map_append, ← List.append_assoc]; congr 1; show [mkP k j m.2.1 len] = _; unfold mkP; rw [← HAE.out, if_neg hbig])
            have HA2 : Hid (a + m.2.1 = ((j + 1 : Nat) : Int) * m.2.1) := Lib.hid (by rw [HAE.out, Int.natCast_add, Int.add_mul]; first | omega | simp)
            go_wp2_with (first | ((with_reducible refine Fl.wpList_build_to rfl 53 _ rfl (#[.int .i64 (k : Int), .int .i64 (j : Int), .int .i64 a, .int .i64 ((len - a))]) ?bf ?_); (case bf => kernel_rfl)) | ((with_reducible refine Fl.wpList_lit_one rfl 101 53 (.tmp 46) rfl (encPl ((k : Int), (j : Int), a, (len - a))).toArray ?tx Try.underlying101 (.agg (encPl (0, 0, 0, 0)).toArray) ?ti ?tp ?ts ?_); (case tx => rfl); (case ti => exact (by kernel_rfl)); (case tp => rfl); (case ts => rfl)) | (at_builtin; go_loud (refine Kd.R_append KPl (w0 := w) w.heap.size rfl (.tmp 41) (.tmp 47) 101 53 (.agg (encPl (0, 0, 0, 0)).toArray) 32 rfl Try.underlying101 infoPl rfl (by decide) (by omega) u3 ((L ++ (List.range j).map fun q => mkP k q m.2.1 len)) (((k : Int), (j : Int), a, (len - a))) (encPl ((k : Int), (j : Int), a, (len - a))) (fun _ => True) (fun _ => False) rfl rfl ?aP (fun _ h => h.elim) ?aF ?aO ?aB ?aS ?aL ?_); (case aP => exact rfl); (case aB => exact HB.out); (case aF => exact (fun _ _ => trivial)); (case aO => exact HO.out); (case aS => exact below_size HB.out); (case aL => have := HLEN.out; omega); intro v1 wq ho hb hg hat; rw [← HT.out] at ho; have HO1 := Aside0.mk ho; have HB1 := Aside0.mk hb; have HX1 := Aside0.mk (blk_grown HX.out hg HNE.out); have hx1q : wq.cell? ⟨w.heap.size, 1, none⟩ = some (.int .i64 m.2.1) := Go.Joins.cell_of_block HX1.out 1; clear ho hb hg hat HB HO))
            go_roundw
            case rel => exact ⟨j + 1, by omega, by go_num, by first | exact congrArg (Value.int .i64) HA2.out | exact congrArg (Value.int .i64) HA.out, HO1, HX1, HB1⟩
            case measure => simp [intOf]; omega
        · have ej : j = cN len m.2.1 := by omega
          clear hj
          have b1 : decide ((j : Int) * m.2.1 < len) = false := decide_eq_false (fun h => hjc (hlt2.2 h))
          have HO2 : Aside0 (KPl.R 53 wr w.heap.size (fun _ => True) u3 (pls m.2.1 (m.2.2.1.take (k + 1)) 0)) := ⟨by rw [HTK.out]; unfold fpl; rw [← ej]; exact HO.out⟩
          clear HA hlt2 ej hjc
          go_wp2
          go_roundw
          case rel => exact ⟨k + 1, by omega, by go_num, HO2, HX, HB⟩
          case measure => simp [intOf]; omega
    · have ek : k = m.2.2.1.length := by omega
      subst ek
      have ho := HO.out
      rw [List.take_length] at ho
      obtain ⟨A, c, e, hc, hC⟩ := Kd.R_reads ho
      subst e
      go_wp2
      go_ret
      exact ⟨A, c, rfl, hC, HB.out⟩
end Cr
end Go.Proofs.Ytjeeakhgjcbhaaa
set_option linter.unusedVariables false
set_option linter.unusedSimpArgs false
namespace Go.Proofs.Ytjeeakhgjcbhaaa
open Go.RowKit Go.Proofs.YtjeeakhgjcbhaaaW.PrintWords Go.Proofs.YtjeeakhgjcbhaaaW Go.Proofs.YtjeeakhgjcbhaaaW.PrintMore
namespace Cr
open Wd Vl Mt PCreateBlocks
theorem cfault_pl {m : MetaD} (h : cfault m = 0) : m.2.1 ≠ 0 := by
  unfold cfault at h
  by_cases hg : goodPL m.2.1 = false
  · rw [if_pos hg] at h; omega
  · exact goodPL_ne (by simpa using hg)
theorem C_take {α : Type} {d : Kd α} {w : World} {A : Option Addr} {n k : Nat} {xs : List α} (h : d.C w A n xs) (hk : k ≤ n) : d.C w A k (xs.take k) := by
  obtain ⟨h1, h2, h3⟩ := h
  refine ⟨by rw [List.length_take]; omega, by omega, fun hn => ?_⟩
  obtain ⟨ad, e, hc⟩ := h3 (by omega)
  refine ⟨ad, e, fun j p hj => hc j p ?_⟩
  rw [List.getElem?_take] at hj
  split at hj
  · exact hj
  · cases hj
theorem meta_cap {w : World} {m : MetaD} {s : ByteArray} {n : Int} {A : Option Addr} {k c : Nat} {r : List Value} (h : KMeta.K w m (.string s :: .int .i64 n :: .slice A k c :: r)) : k ≤ c := by
  obtain ⟨AF, cF, AL, cL, AI, cI, AT, cT, e, _, _, _, _, l1, _⟩ := meta_open' h
  injection e with _ e
  injection e with _ e
  injection e with e _
  injection e with _ e1 e2
  omega
/-- Pieces, as create tells it. -/
def cPieces (m : MetaD) : Int := if cfault m = 0 then csum m.2.1 m.2.2.1 0 else 0
set_option maxHeartbeats 4000000 in
set_option maxRecDepth 100000 in
theorem Pieces_any (m : MetaD) (cs : List Value) (w : World) (hK : KMeta.K w m cs) (hG : GMeta m) :
    Calls Try.prog 19 #[.agg cs.toArray] w fun e w' => e = .returned (.tuple #[.int .i64 (cPieces m), .int .i64 (cfault m)]) ∧ Below w.heap.size w w' := by
  obtain ⟨AF, cF, AL, cL, AI, cI, AT, cT, rfl, hF, _⟩ := meta_open hK
  have q1 : m.2.2.1.length * 88 ≤ 140737488351232 := hG.2.1.1
  have HF := Aside0.mk hF
  have HK := Aside0.mk hK
  have HB0 : Aside0 (Below w.heap.size w (w.alloc (.cells #[.string m.1, .int .i64 m.2.1, .slice AF m.2.2.1.length cF, .slice AL m.2.2.2.1.length cL, .slice AI m.2.2.2.2.1.length cI, .slice AT m.2.2.2.2.2.length cT] 46))) := ⟨below_alloc (Below.refl w.heap.size w) (.cells #[.string m.1, .int .i64 m.2.1, .slice AF m.2.2.1.length cF, .slice AL m.2.2.2.1.length cL, .slice AI m.2.2.2.2.1.length cI, .slice AT m.2.2.2.2.2.length cT] 46)⟩
  have HX0 : Aside0 ((w.alloc (.cells #[.string m.1, .int .i64 m.2.1, .slice AF m.2.2.1.length cF, .slice AL m.2.2.2.1.length cL, .slice AI m.2.2.2.2.1.length cI, .slice AT m.2.2.2.2.2.length cT] 46)).heap[w.heap.size]? = some (.cells #[.string m.1, .int .i64 m.2.1, .slice AF m.2.2.1.length cF, .slice AL m.2.2.2.1.length cL, .slice AI m.2.2.2.2.1.length cI, .slice AT m.2.2.2.2.2.length cT] 46)) := ⟨heap_alloc_new w _⟩
  have HZ : Hid (∀ j u, ([.string m.1, .int .i64 m.2.1, .slice AF m.2.2.1.length cF, .slice AL m.2.2.2.1.length cL, .slice AI m.2.2.2.2.1.length cI, .slice AT m.2.2.2.2.2.length cT] : List Value)[j]? = some u → (w.alloc (.cells #[.string m.1, .int .i64 m.2.1, .slice AF m.2.2.1.length cF, .slice AL m.2.2.2.1.length cL, .slice AI m.2.2.2.2.1.length cI, .slice AT m.2.2.2.2.2.length cT] 46)).cell? ((⟨w.heap.size, 0, none⟩ : Addr).add j) = some u) := Lib.hid fun j u hj => by rw [Go.WideShapes.add_plain, Go.Joins.cell_of_block HX0.out, List.getElem?_toArray, Nat.zero_add]; exact hj
  have HFA := Lib.hid (fault_any m _ _ (KMeta.K_below HB0.out hK) hG)
  clear hF hK hG
  go_enter Try.func19, Try.ntmps19
  go_wp2_with ((with_reducible refine Fl.wpList_load rfl 46 (.tmp 1) rfl (⟨w.heap.size, 0, none⟩) ?lx ([.string m.1, .int .i64 m.2.1, .slice AF m.2.2.1.length cF, .slice AL m.2.2.2.1.length cL, .slice AI m.2.2.2.2.1.length cI, .slice AT m.2.2.2.2.2.length cT]) _ ?lc Try.underlying46 rfl ?li ?_); (case lx => rfl); (case lc => exact HZ.out); (case li => exact (by kernel_rfl)))
  go_at_call 53
  refine HFA.out.mono ?_
  rintro e wr ⟨rfl, hb1⟩
  have HX := Aside0.mk (blk_below HX0.out hb1)
  have HB := Aside0.mk (below_step HB0.out hb1)
  clear hb1 HX0 HB0 HZ HFA
  have hx2 : wr.cell? ⟨w.heap.size, 2, none⟩ = some (.slice AF m.2.2.1.length cF) := Go.Joins.cell_of_block HX.out 2
  by_cases hf : cfault m = 0
  · have e1 : cPieces m = csum m.2.1 m.2.2.1 0 := by unfold cPieces; rw [if_pos hf]
    have E1 := Lib.hid e1
    have hpl : m.2.1 ≠ 0 := cfault_pl hf
    clear e1
    rw [hf]
    go_upto_region 4 with fail
    refine PrintLast.start_ (n := 7) (S := fun w' => Below wr.heap.size wr w') (ds := []) #[false, false, false, false, false, false, false] (by kernel_rfl) rfl rfl (below_drew1 (Below.refl _ _)) (fun hHeld => ?_)
    generalize wr.drew = W0 at *
    refine PrintLast.pure_ (i := 0) (N := some 10) (v := ?_) (a' := ?_) #[true, false, false, false, false, false, false] rfl rfl (by kernel_rfl) (fun _ _ _ h => h) (Or.inl ⟨by rfl, ?_⟩) ?_ ?_
    rotate_left
    · intro w'
      go_simp
      with_reducible rfl
    rotate_left
    · simp only [Act.put, List.setIfInBounds_toArray, List.set_cons_zero, List.set_cons_succ]
      rfl
    refine PrintLast.take_ (i := 1) (N := some 11) (v := ?_) (a' := ?_) #[true, true, false, false, false, false, false] rfl rfl (by kernel_rfl) (fun _ _ _ h => h) (Or.inl ⟨by rfl, ?_⟩) hHeld ?_ ?_
    rotate_left
    · intro w' s0
      (have g1 := cell_stay s0 hx2; go_simp; with_reducible rfl)
    rotate_left
    · simp only [Act.put, List.setIfInBounds_toArray, List.set_cons_zero, List.set_cons_succ]
      rfl
    refine PrintLast.take_ (i := 2) (N := some 12) (v := .agg (#[.string m.1, .int .i64 m.2.1, .slice AF m.2.2.1.length cF, .slice AL m.2.2.2.1.length cL, .slice AI m.2.2.2.2.1.length cI, .slice AT m.2.2.2.2.2.length cT] : Array Value)) (a' := ?_) #[true, true, true, false, false, false, false] rfl rfl (by kernel_rfl) (fun _ _ _ h => h) (Or.inl ⟨by rfl, ?_⟩) hHeld ?_ ?_
    skip
    · intro w' s0
      exact Fl.exec_load (ty := 46) (x := .tmp 1) (ad := ⟨w.heap.size, 0, none⟩) (cs := (#[.string m.1, .int .i64 m.2.1, .slice AF m.2.2.1.length cF, .slice AL m.2.2.2.1.length cL, .slice AI m.2.2.2.2.1.length cI, .slice AT m.2.2.2.2.2.length cT] : Array Value)) (by rfl) (by rfl) (Fl.run_load (cs := [.string m.1, .int .i64 m.2.1, .slice AF m.2.2.1.length cF, .slice AL m.2.2.2.1.length cL, .slice AI m.2.2.2.2.1.length cI, .slice AT m.2.2.2.2.2.length cT]) (fun j u hj => cell_stay s0 (by rw [Go.WideShapes.add_plain, Go.Joins.cell_of_block HX.out, List.getElem?_toArray, Nat.zero_add]; exact hj)) Try.underlying46 rfl (by kernel_rfl))
    rotate_left
    · simp only [Act.put, List.setIfInBounds_toArray, List.set_cons_zero, List.set_cons_succ]
      rfl
    refine PrintLast.one_ (i := 3) (N := some 13) #[true, true, true, true, false, false, false] rfl rfl (by kernel_rfl) (by decide) (fun K hK => ?_)
    refine PrintLast.goes_ Try.func55 (by kernel_rfl) rfl #[.agg (#[.string m.1, .int .i64 m.2.1, .slice AF m.2.2.1.length cF, .slice AL m.2.2.2.1.length cL, .slice AI m.2.2.2.2.1.length cI, .slice AT m.2.2.2.2.2.length cT] : Array Value)] (by rfl) rfl rfl (by simp only [List.map_toArray, List.map_cons, List.map_nil]; rfl) ?_
    refine (pieces_any m _ _ (KMeta.K_below (below_step HB.out hHeld) HK.out)).mono ?_
    rintro e W1 ⟨rfl, hpc_gp, hst⟩
    have hst1 := below_step hHeld hst
    refine ⟨_, rfl, ?_⟩
    refine hK.out _ _ hst1 (fun hHeld => ?_)
    clear hK K
    refine PrintLast.norm_ (a' := ?_) ?_ ?_
    rotate_left
    · show Act.put _ (some 13) _ = _
      simp only [Act.put, List.setIfInBounds_toArray, List.set_cons_zero, List.set_cons_succ]
      rfl
    clear hst
    obtain ⟨gp, hgp⟩ : ∃ gp, gp = W0.heap.size := ⟨_, rfl⟩
    rw [← hgp] at hpc_gp ⊢
    clear hgp
    refine PrintLast.one_ (i := 4) (N := some 14) #[true, true, true, true, true, false, false] rfl rfl (by kernel_rfl) (by decide) (fun K hK => ?_)
    refine PrintLast.goes_ Try.func54 (by kernel_rfl) rfl #[.slice AF m.2.2.1.length cF, .func (.func 83) #[] #[.pointer (some ⟨gp, 0, none⟩)]] (by rfl) rfl rfl (by simp only [List.map_toArray, List.map_cons, List.map_nil]; rfl) ?_
    refine (sum_any AF (cF) m.2.2.1 gp m.2.1 _ (Kd.C_below HF.out (below_step HB.out hHeld)) q1 hpc_gp hpl).mono ?_
    rintro e W2 ⟨rfl, hst⟩
    have hst2 := below_step hHeld hst
    refine ⟨_, rfl, ?_⟩
    refine hK.out _ _ hst2 (fun hHeld => ?_)
    clear hK K
    refine PrintLast.norm_ (a' := ?_) ?_ ?_
    rotate_left
    · show Act.put _ (some 14) _ = _
      simp only [Act.put, List.setIfInBounds_toArray, List.set_cons_zero, List.set_cons_succ]
      rfl
    clear hst
    refine PrintLast.pure_ (i := 5) (N := some 2) (v := ?_) (a' := ?_) #[true, true, true, true, true, true, false] rfl rfl (by kernel_rfl) (fun _ _ _ h => h) (Or.inl ⟨by rfl, ?_⟩) ?_ ?_
    rotate_left
    · intro w'
      go_simp
      with_reducible rfl
    rotate_left
    · simp only [Act.put, List.setIfInBounds_toArray, List.set_cons_zero, List.set_cons_succ]
      rfl
    refine PrintLast.pure_ (i := 6) (N := some 3) (v := ?_) (a' := ?_) #[true, true, true, true, true, true, true] rfl rfl (by kernel_rfl) (fun _ _ _ h => h) (Or.inl ⟨by rfl, ?_⟩) ?_ ?_
    rotate_left
    · intro w'
      go_simp
      with_reducible rfl
    rotate_left
    · simp only [Act.put, List.setIfInBounds_toArray, List.set_cons_zero, List.set_cons_succ]
      rfl
    refine PrintLast.done_ (by kernel_rfl) ?_
    go_wp2
    go_ret2
    exact ⟨by rw [E1.out, hf]; rfl, below_step HB.out hHeld⟩
  · have e1 : cPieces m = 0 := by unfold cPieces; rw [if_neg hf]
    have b1 : (cfault m == 0) = false := by simp [hf]
    have b2 : (cfault m != 0) = true := by simp [hf]
    go_wp2
    go_ret2
    exact ⟨by rw [e1]; rfl, HB.out⟩
/-- Row, as create tells it: the first, how many, the fault. -/
def cRow (m : MetaD) (file : Int) : Int × Int × Int := if cfault m = 0 then (if 0 ≤ file ∧ file < m.2.2.1.length then (csum m.2.1 (m.2.2.1.take file.toNat) 0, cP (m.2.2.1.getD file.toNat f0).2.1 m.2.1, 0) else (0, 0, 90)) else (0, 0, cfault m)
set_option maxHeartbeats 4000000 in
set_option maxRecDepth 100000 in
theorem Row_any (m : MetaD) (cs : List Value) (file : Int) (w : World) (hK : KMeta.K w m cs) (hG : GMeta m) :
    Calls Try.prog 21 #[.agg cs.toArray, .int .i64 file] w fun e w' => e = .returned (.tuple #[.int .i64 (cRow m file).1, .int .i64 (cRow m file).2.1, .int .i64 (cRow m file).2.2]) ∧ Below w.heap.size w w' := by
  obtain ⟨AF, cF, AL, cL, AI, cI, AT, cT, rfl, hF, _⟩ := meta_open hK
  have hcap := meta_cap hK
  have q1 : m.2.2.1.length * 88 ≤ 140737488351232 := hG.2.1.1
  have HF := Aside0.mk hF
  have HK := Aside0.mk hK
  have HB0 : Aside0 (Below w.heap.size w (w.alloc (.cells #[.string m.1, .int .i64 m.2.1, .slice AF m.2.2.1.length cF, .slice AL m.2.2.2.1.length cL, .slice AI m.2.2.2.2.1.length cI, .slice AT m.2.2.2.2.2.length cT] 46))) := ⟨below_alloc (Below.refl w.heap.size w) (.cells #[.string m.1, .int .i64 m.2.1, .slice AF m.2.2.1.length cF, .slice AL m.2.2.2.1.length cL, .slice AI m.2.2.2.2.1.length cI, .slice AT m.2.2.2.2.2.length cT] 46)⟩
  have HX0 : Aside0 ((w.alloc (.cells #[.string m.1, .int .i64 m.2.1, .slice AF m.2.2.1.length cF, .slice AL m.2.2.2.1.length cL, .slice AI m.2.2.2.2.1.length cI, .slice AT m.2.2.2.2.2.length cT] 46)).heap[w.heap.size]? = some (.cells #[.string m.1, .int .i64 m.2.1, .slice AF m.2.2.1.length cF, .slice AL m.2.2.2.1.length cL, .slice AI m.2.2.2.2.1.length cI, .slice AT m.2.2.2.2.2.length cT] 46)) := ⟨heap_alloc_new w _⟩
  have HZ : Hid (∀ j u, ([.string m.1, .int .i64 m.2.1, .slice AF m.2.2.1.length cF, .slice AL m.2.2.2.1.length cL, .slice AI m.2.2.2.2.1.length cI, .slice AT m.2.2.2.2.2.length cT] : List Value)[j]? = some u → (w.alloc (.cells #[.string m.1, .int .i64 m.2.1, .slice AF m.2.2.1.length cF, .slice AL m.2.2.2.1.length cL, .slice AI m.2.2.2.2.1.length cI, .slice AT m.2.2.2.2.2.length cT] 46)).cell? ((⟨w.heap.size, 0, none⟩ : Addr).add j) = some u) := Lib.hid fun j u hj => by rw [Go.WideShapes.add_plain, Go.Joins.cell_of_block HX0.out, List.getElem?_toArray, Nat.zero_add]; exact hj
  have HFA := Lib.hid (fault_any m _ _ (KMeta.K_below HB0.out hK) hG)
  clear hF hK hG
  go_enter Try.func21, Try.ntmps21
  go_wp2_with ((with_reducible refine Fl.wpList_load rfl 46 (.tmp 2) rfl (⟨w.heap.size, 0, none⟩) ?lx ([.string m.1, .int .i64 m.2.1, .slice AF m.2.2.1.length cF, .slice AL m.2.2.2.1.length cL, .slice AI m.2.2.2.2.1.length cI, .slice AT m.2.2.2.2.2.length cT]) _ ?lc Try.underlying46 rfl ?li ?_); (case lx => rfl); (case lc => exact HZ.out); (case li => exact (by kernel_rfl)))
  go_at_call 53
  refine HFA.out.mono ?_
  rintro e wr ⟨rfl, hb1⟩
  have HX := Aside0.mk (blk_below HX0.out hb1)
  have HB := Aside0.mk (below_step HB0.out hb1)
  clear hb1 HX0 HB0 HZ HFA
  have hx2 : wr.cell? ⟨w.heap.size, 2, none⟩ = some (.slice AF m.2.2.1.length cF) := Go.Joins.cell_of_block HX.out 2
  by_cases hf : cfault m = 0
  · have hpl : m.2.1 ≠ 0 := cfault_pl hf
    rw [hf]
    by_cases h0 : file < 0
    · have b0 : decide (file < 0) = true := decide_eq_true h0
      have e1 : cRow m file = (0, 0, 90) := by unfold cRow; rw [if_pos hf, if_neg (by omega)]
      have E1 := Lib.hid e1
      clear e1
      go_wp2
      go_ret3
      exact ⟨by rw [E1.out]; rfl, HB.out⟩
    · have b0 : decide (file < 0) = false := decide_eq_false h0
      by_cases h1 : file ≥ m.2.2.1.length
      · have b1 : decide (file ≥ (m.2.2.1.length : Int)) = true := decide_eq_true h1
        have e1 : cRow m file = (0, 0, 90) := by unfold cRow; rw [if_pos hf, if_neg (by omega)]
        have E1 := Lib.hid e1
        clear e1
        go_wp2
        go_ret3
        exact ⟨by rw [E1.out]; rfl, HB.out⟩
      · have b1 : decide (file ≥ (m.2.2.1.length : Int)) = false := decide_eq_false h1
        have e1 : cRow m file = (csum m.2.1 (m.2.2.1.take file.toNat) 0, cP (m.2.2.1.getD file.toNat f0).2.1 m.2.1, 0) := by unfold cRow; rw [if_pos hf, if_pos (by omega)]
        have E1 := Lib.hid e1
        clear e1
        obtain ⟨k, rfl⟩ : ∃ k : Nat, file = k := ⟨file.toNat, by omega⟩
        rw [Int.toNat_natCast] at E1
        have hlt : k < m.2.2.1.length := by omega
        have hlt' : (k : Int) < m.2.2.1.length := by omega
        have hlc : k ≤ cF := by omega
        obtain ⟨ad, cs, e0, hl35, hfk, hcs⟩ := at_file HF.out k hlt
        subst e0
        have HSU : Hid (∀ W : World, Below w.heap.size w W → ∀ {g : Nat}, W.cell? ⟨g, 1, none⟩ = some (.int .i64 m.2.1) → Calls Try.prog 54 #[.slice (some ad) k cF, .func (.func 83) #[] #[.pointer (some ⟨g, 0, none⟩)]] W fun e w' => e = .returned (.int .i64 (csum m.2.1 (m.2.2.1.take k) 0)) ∧ Below W.heap.size W w') := Lib.hid fun W hW g hg => by
          have hl : (m.2.2.1.take k).length = k := by rw [List.length_take]; omega
          have := sum_any (some ad) cF (m.2.2.1.take k) g m.2.1 W (by rw [hl]; exact C_take (Kd.C_below HF.out hW) (by omega)) (by rw [hl]; omega) hg hpl
          rwa [hl] at this
        change KFile.K w (fx m.2.2.1 k) cs at hfk
        have hfs : m.2.2.1.getD k f0 = fx m.2.2.1 k := rfl
        rw [hfs] at E1
        clear hfs
        generalize fx m.2.2.1 k = f at *
        have hf' := hfk
        obtain ⟨P, p, MM, q, rfl, _⟩ := file_open hfk
        have HY : Hid (∀ j u, (encF (.slice P f.1.length p) f.2.1 f.2.2.1 (.slice MM f.2.2.2.length q))[j]? = some u → wr.cell? ((ad.add (k * 35)).add j) = some u) := Lib.hid fun j u hj => by
          rw [Go.Deep.add_add]
          exact cell_stay HB.out (hcs j u hj)
        have HKF := Aside0.mk hf'
        clear hfk hf' hcs hl35
        go_upto_region 6 with fail
        refine PrintLast.start_ (n := 18) (S := fun w' => Below wr.heap.size wr w') (ds := []) #[false, false, false, false, false, false, false, false, false, false, false, false, false, false, false, false, false, false] (by kernel_rfl) rfl rfl (below_drew1 (Below.refl _ _)) (fun hHeld => ?_)
        generalize wr.drew = W0 at *
        refine PrintLast.pure_ (i := 0) (N := some 22) (v := ?_) (a' := ?_) #[true, false, false, false, false, false, false, false, false, false, false, false, false, false, false, false, false, false] rfl rfl (by kernel_rfl) (fun _ _ _ h => h) (Or.inl ⟨by rfl, ?_⟩) ?_ ?_
        rotate_left
        · intro w'
          go_simp
          with_reducible rfl
        rotate_left
        · simp only [Act.put, List.setIfInBounds_toArray, List.set_cons_zero, List.set_cons_succ]
          rfl
        refine PrintLast.take_ (i := 1) (N := some 23) (v := ?_) (a' := ?_) #[true, true, false, false, false, false, false, false, false, false, false, false, false, false, false, false, false, false] rfl rfl (by kernel_rfl) (fun _ _ _ h => h) (Or.inl ⟨by rfl, ?_⟩) hHeld ?_ ?_
        rotate_left
        · intro w' s0
          (have g1 := cell_stay s0 hx2; go_simp; with_reducible rfl)
        rotate_left
        · simp only [Act.put, List.setIfInBounds_toArray, List.set_cons_zero, List.set_cons_succ]
          rfl
        refine PrintLast.pure_ (i := 2) (N := some 24) (v := ?_) (a' := ?_) #[true, true, true, false, false, false, false, false, false, false, false, false, false, false, false, false, false, false] rfl rfl (by kernel_rfl) (fun _ _ _ h => h) (Or.inl ⟨by rfl, ?_⟩) ?_ ?_
        rotate_left
        · intro w'
          go_simp
          with_reducible rfl
        rotate_left
        · simp only [Act.put, List.setIfInBounds_toArray, List.set_cons_zero, List.set_cons_succ]
          rfl
        refine PrintLast.pure_ (i := 3) (N := some 25) (v := .slice (some ad) k cF) (a' := ?_) #[true, true, true, true, false, false, false, false, false, false, false, false, false, false, false, false, false, false] rfl rfl (by kernel_rfl) (fun _ _ _ h => h) (Or.inl ⟨by rfl, ?_⟩) ?_ ?_
        skip
        · intro w'
          go_simp
        rotate_left
        · simp only [Act.put, List.setIfInBounds_toArray, List.set_cons_zero, List.set_cons_succ]
          rfl
        refine PrintLast.take_ (i := 4) (N := some 26) (v := .agg (#[.string m.1, .int .i64 m.2.1, .slice (some ad) m.2.2.1.length cF, .slice AL m.2.2.2.1.length cL, .slice AI m.2.2.2.2.1.length cI, .slice AT m.2.2.2.2.2.length cT] : Array Value)) (a' := ?_) #[true, true, true, true, true, false, false, false, false, false, false, false, false, false, false, false, false, false] rfl rfl (by kernel_rfl) (fun _ _ _ h => h) (Or.inl ⟨by rfl, ?_⟩) hHeld ?_ ?_
        skip
        · intro w' s0
          exact Fl.exec_load (ty := 46) (x := .tmp 2) (ad := ⟨w.heap.size, 0, none⟩) (cs := (#[.string m.1, .int .i64 m.2.1, .slice (some ad) m.2.2.1.length cF, .slice AL m.2.2.2.1.length cL, .slice AI m.2.2.2.2.1.length cI, .slice AT m.2.2.2.2.2.length cT] : Array Value)) (by rfl) (by rfl) (Fl.run_load (cs := [.string m.1, .int .i64 m.2.1, .slice (some ad) m.2.2.1.length cF, .slice AL m.2.2.2.1.length cL, .slice AI m.2.2.2.2.1.length cI, .slice AT m.2.2.2.2.2.length cT]) (fun j u hj => cell_stay s0 (by rw [Go.WideShapes.add_plain, Go.Joins.cell_of_block HX.out, List.getElem?_toArray, Nat.zero_add]; exact hj)) Try.underlying46 rfl (by kernel_rfl))
        rotate_left
        · simp only [Act.put, List.setIfInBounds_toArray, List.set_cons_zero, List.set_cons_succ]
          rfl
        refine PrintLast.take_ (i := 7) (N := some 29) (v := .agg (#[.string m.1, .int .i64 m.2.1, .slice (some ad) m.2.2.1.length cF, .slice AL m.2.2.2.1.length cL, .slice AI m.2.2.2.2.1.length cI, .slice AT m.2.2.2.2.2.length cT] : Array Value)) (a' := ?_) #[true, true, true, true, true, false, false, true, false, false, false, false, false, false, false, false, false, false] rfl rfl (by kernel_rfl) (fun _ _ _ h => h) (Or.inl ⟨by rfl, ?_⟩) hHeld ?_ ?_
        skip
        · intro w' s0
          exact Fl.exec_load (ty := 46) (x := .tmp 2) (ad := ⟨w.heap.size, 0, none⟩) (cs := (#[.string m.1, .int .i64 m.2.1, .slice (some ad) m.2.2.1.length cF, .slice AL m.2.2.2.1.length cL, .slice AI m.2.2.2.2.1.length cI, .slice AT m.2.2.2.2.2.length cT] : Array Value)) (by rfl) (by rfl) (Fl.run_load (cs := [.string m.1, .int .i64 m.2.1, .slice (some ad) m.2.2.1.length cF, .slice AL m.2.2.2.1.length cL, .slice AI m.2.2.2.2.1.length cI, .slice AT m.2.2.2.2.2.length cT]) (fun j u hj => cell_stay s0 (by rw [Go.WideShapes.add_plain, Go.Joins.cell_of_block HX.out, List.getElem?_toArray, Nat.zero_add]; exact hj)) Try.underlying46 rfl (by kernel_rfl))
        rotate_left
        · simp only [Act.put, List.setIfInBounds_toArray, List.set_cons_zero, List.set_cons_succ]
          rfl
        refine PrintLast.pure_ (i := 9) (N := some 31) (v := ?_) (a' := ?_) #[true, true, true, true, true, false, false, true, false, true, false, false, false, false, false, false, false, false] rfl rfl (by kernel_rfl) (fun _ _ _ h => h) (Or.inl ⟨by rfl, ?_⟩) ?_ ?_
        rotate_left
        · intro w'
          go_simp
          with_reducible rfl
        rotate_left
        · simp only [Act.put, List.setIfInBounds_toArray, List.set_cons_zero, List.set_cons_succ]
          rfl
        refine PrintLast.take_ (i := 10) (N := some 32) (v := ?_) (a' := ?_) #[true, true, true, true, true, false, false, true, false, true, true, false, false, false, false, false, false, false] rfl rfl (by kernel_rfl) (fun _ _ _ h => h) (Or.inl ⟨by rfl, ?_⟩) hHeld ?_ ?_
        rotate_left
        · intro w' s0
          (have g1 := cell_stay s0 hx2; go_simp; with_reducible rfl)
        rotate_left
        · simp only [Act.put, List.setIfInBounds_toArray, List.set_cons_zero, List.set_cons_succ]
          rfl
        refine PrintLast.pure_ (i := 11) (N := some 33) (v := ?_) (a' := ?_) #[true, true, true, true, true, false, false, true, false, true, true, true, false, false, false, false, false, false] rfl rfl (by kernel_rfl) (fun _ _ _ h => h) (Or.inl ⟨by rfl, ?_⟩) ?_ ?_
        rotate_left
        · intro w'
          go_simp
          with_reducible rfl
        rotate_left
        · simp only [Act.put, List.setIfInBounds_toArray, List.set_cons_zero, List.set_cons_succ]
          rfl
        refine PrintLast.pure_ (i := 12) (N := some 34) (v := ?_) (a' := ?_) #[true, true, true, true, true, false, false, true, false, true, true, true, true, false, false, false, false, false] rfl rfl (by kernel_rfl) (fun _ _ _ h => h) (Or.inl ⟨by rfl, ?_⟩) ?_ ?_
        rotate_left
        · intro w'
          go_simp
          with_reducible rfl
        rotate_left
        · simp only [Act.put, List.setIfInBounds_toArray, List.set_cons_zero, List.set_cons_succ]
          rfl
        refine PrintLast.take_ (i := 13) (N := some 35) (v := .agg (encF (.slice P f.1.length p) f.2.1 f.2.2.1 (.slice MM f.2.2.2.length q)).toArray) (a' := ?_) #[true, true, true, true, true, false, false, true, false, true, true, true, true, true, false, false, false, false] rfl rfl (by kernel_rfl) (fun _ _ _ h => h) (Or.inl ⟨by rfl, ?_⟩) hHeld ?_ ?_
        skip
        · intro w' s0
          exact Fl.exec_load (ty := 93) (x := .tmp 34) (ad := ad.add (k * 35)) (cs := (encF (.slice P f.1.length p) f.2.1 f.2.2.1 (.slice MM f.2.2.2.length q)).toArray) (by rfl) (by rfl) (Fl.run_load (fun j u hj => cell_stay s0 (HY.out j u hj)) Try.underlying93 rfl (sizeF (encF_len _ _ _ _)))
        rotate_left
        · simp only [Act.put, List.setIfInBounds_toArray, List.set_cons_zero, List.set_cons_succ]
          rfl
        refine PrintLast.one_ (i := 5) (N := some 27) #[true, true, true, true, true, true, false, true, false, true, true, true, true, true, false, false, false, false] rfl rfl (by kernel_rfl) (by decide) (fun K hK => ?_)
        refine PrintLast.goes_ Try.func55 (by kernel_rfl) rfl #[.agg (#[.string m.1, .int .i64 m.2.1, .slice (some ad) m.2.2.1.length cF, .slice AL m.2.2.2.1.length cL, .slice AI m.2.2.2.2.1.length cI, .slice AT m.2.2.2.2.2.length cT] : Array Value)] (by rfl) rfl rfl (by simp only [List.map_toArray, List.map_cons, List.map_nil]; rfl) ?_
        refine (pieces_any m _ _ (KMeta.K_below (below_step HB.out hHeld) HK.out)).mono ?_
        rintro e W1 ⟨rfl, hpc_gp, hst⟩
        have hst1 := below_step hHeld hst
        refine ⟨_, rfl, ?_⟩
        refine hK.out _ _ hst1 (fun hHeld => ?_)
        clear hK K
        refine PrintLast.norm_ (a' := ?_) ?_ ?_
        rotate_left
        · show Act.put _ (some 27) _ = _
          simp only [Act.put, List.setIfInBounds_toArray, List.set_cons_zero, List.set_cons_succ]
          rfl
        clear hst
        obtain ⟨gp, hgp⟩ : ∃ gp, gp = W0.heap.size := ⟨_, rfl⟩
        rw [← hgp] at hpc_gp ⊢
        clear hgp
        refine PrintLast.one_ (i := 6) (N := some 28) #[true, true, true, true, true, true, true, true, false, true, true, true, true, true, false, false, false, false] rfl rfl (by kernel_rfl) (by decide) (fun K hK => ?_)
        refine PrintLast.goes_ Try.func54 (by kernel_rfl) rfl #[.slice (some ad) k cF, .func (.func 83) #[] #[.pointer (some ⟨gp, 0, none⟩)]] (by rfl) rfl rfl (by simp only [List.map_toArray, List.map_cons, List.map_nil]; rfl) ?_
        refine (HSU.out _ (below_step HB.out hHeld) hpc_gp).mono ?_
        rintro e W2 ⟨rfl, hst⟩
        have hst2 := below_step hHeld hst
        refine ⟨_, rfl, ?_⟩
        refine hK.out _ _ hst2 (fun hHeld => ?_)
        clear hK K
        refine PrintLast.norm_ (a' := ?_) ?_ ?_
        rotate_left
        · show Act.put _ (some 28) _ = _
          simp only [Act.put, List.setIfInBounds_toArray, List.set_cons_zero, List.set_cons_succ]
          rfl
        clear hst
        refine PrintLast.one_ (i := 8) (N := some 30) #[true, true, true, true, true, true, true, true, true, true, true, true, true, true, false, false, false, false] rfl rfl (by kernel_rfl) (by decide) (fun K hK => ?_)
        refine PrintLast.goes_ Try.func55 (by kernel_rfl) rfl #[.agg (#[.string m.1, .int .i64 m.2.1, .slice (some ad) m.2.2.1.length cF, .slice AL m.2.2.2.1.length cL, .slice AI m.2.2.2.2.1.length cI, .slice AT m.2.2.2.2.2.length cT] : Array Value)] (by rfl) rfl rfl (by simp only [List.map_toArray, List.map_cons, List.map_nil]; rfl) ?_
        refine (pieces_any m _ _ (KMeta.K_below (below_step HB.out hHeld) HK.out)).mono ?_
        rintro e W3 ⟨rfl, hpc_gq, hst⟩
        have hst1 := below_step hHeld hst
        refine ⟨_, rfl, ?_⟩
        refine hK.out _ _ hst1 (fun hHeld => ?_)
        clear hK K
        refine PrintLast.norm_ (a' := ?_) ?_ ?_
        rotate_left
        · show Act.put _ (some 30) _ = _
          simp only [Act.put, List.setIfInBounds_toArray, List.set_cons_zero, List.set_cons_succ]
          rfl
        clear hst
        obtain ⟨gq, hgq⟩ : ∃ gp, gp = W2.heap.size := ⟨_, rfl⟩
        rw [← hgq] at hpc_gq ⊢
        clear hgq
        refine PrintLast.one_ (i := 14) (N := some 36) #[true, true, true, true, true, true, true, true, true, true, true, true, true, true, true, false, false, false] rfl rfl (by kernel_rfl) (by decide) (fun K hK => ?_)
        refine PrintLast.call_ 83 #[.agg (encF (.slice P f.1.length p) f.2.1 f.2.2.1 (.slice MM f.2.2.2.length q)).toArray, .pointer (some ⟨gq, 0, none⟩)] (by rfl) rfl ?_ ?_
        · have he := PrintLast.enters_ (P := Try.prog) Try.func83 (by kernel_rfl) rfl #[.agg (encF (.slice P f.1.length p) f.2.1 f.2.2.1 (.slice MM f.2.2.2.length q)).toArray, .pointer (some ⟨gq, 0, none⟩)] W3
          unfold execOp
          simp [resolve, Deferred.ofValue, invoke, Act.eval, he]
        refine (pieces1_any f _ gq m.2.1 _ (KFile.K_below (below_step HB.out hHeld) HKF.out) hpc_gq hpl).mono ?_
        rintro e W4 ⟨rfl, hst⟩
        have hst2 := below_step hHeld hst
        refine ⟨_, rfl, ?_⟩
        refine hK.out _ _ hst2 (fun hHeld => ?_)
        clear hK K
        refine PrintLast.norm_ (a' := ?_) ?_ ?_
        rotate_left
        · show Act.put _ (some 36) _ = _
          simp only [Act.put, List.setIfInBounds_toArray, List.set_cons_zero, List.set_cons_succ]
          rfl
        clear hst
        refine PrintLast.pure_ (i := 15) (N := some 4) (v := ?_) (a' := ?_) #[true, true, true, true, true, true, true, true, true, true, true, true, true, true, true, true, false, false] rfl rfl (by kernel_rfl) (fun _ _ _ h => h) (Or.inl ⟨by rfl, ?_⟩) ?_ ?_
        rotate_left
        · intro w'
          go_simp
          with_reducible rfl
        rotate_left
        · simp only [Act.put, List.setIfInBounds_toArray, List.set_cons_zero, List.set_cons_succ]
          rfl
        refine PrintLast.pure_ (i := 16) (N := some 5) (v := ?_) (a' := ?_) #[true, true, true, true, true, true, true, true, true, true, true, true, true, true, true, true, true, false] rfl rfl (by kernel_rfl) (fun _ _ _ h => h) (Or.inl ⟨by rfl, ?_⟩) ?_ ?_
        rotate_left
        · intro w'
          go_simp
          with_reducible rfl
        rotate_left
        · simp only [Act.put, List.setIfInBounds_toArray, List.set_cons_zero, List.set_cons_succ]
          rfl
        refine PrintLast.pure_ (i := 17) (N := some 6) (v := ?_) (a' := ?_) #[true, true, true, true, true, true, true, true, true, true, true, true, true, true, true, true, true, true] rfl rfl (by kernel_rfl) (fun _ _ _ h => h) (Or.inl ⟨by rfl, ?_⟩) ?_ ?_
        rotate_left
        · intro w'
          go_simp
          with_reducible rfl
        rotate_left
        · simp only [Act.put, List.setIfInBounds_toArray, List.set_cons_zero, List.set_cons_succ]
          rfl
        refine PrintLast.done_ (by kernel_rfl) ?_
        go_wp2
        go_ret3
        exact ⟨by rw [E1.out]; rfl, below_step HB.out hHeld⟩
  · have e1 : cRow m file = (0, 0, cfault m) := by unfold cRow; rw [if_neg hf]
    have E1 := Lib.hid e1
    clear e1
    have b1 : (cfault m == 0) = false := by simp [hf]
    have b2 : (cfault m != 0) = true := by simp [hf]
    go_wp2
    go_ret3
    exact ⟨by rw [E1.out]; rfl, HB.out⟩
end Cr
end Go.Proofs.Ytjeeakhgjcbhaaa
set_option linter.unusedVariables false
set_option linter.unusedSimpArgs false
namespace Go.Proofs.Ytjeeakhgjcbhaaa
open Go.RowKit Go.Proofs.YtjeeakhgjcbhaaaW.PrintWords Go.Proofs.YtjeeakhgjcbhaaaW Go.Proofs.YtjeeakhgjcbhaaaW.PrintMore
namespace Cr
open Wd Vl Mt
def pxl (L : List PlD) (k : Nat) : PlD := L.getD k (0, 0, 0, 0)
def cnt (f : PlD → Bool) (l : List PlD) : Nat := (l.filter f).length
theorem cnt_snoc (f : PlD → Bool) (l : List PlD) (p : PlD) : cnt f (l ++ [p]) = cnt f l + (if f p = true then 1 else 0) := by
  unfold cnt
  rw [List.filter_append, List.length_append]
  by_cases h : f p = true <;> simp [h]
theorem cnt_le (f : PlD → Bool) (l : List PlD) (k : Nat) : cnt f (l.take k) ≤ k := by
  unfold cnt
  exact Nat.le_trans (List.length_filter_le _ _) (by rw [List.length_take]; omega)
/-- Row, as the reference tells it. -/
def refRow (m : MetaD) (file : Int) : Int × Int × Int := if cfault m = 0 then (if 0 ≤ file ∧ file < m.2.2.1.length then ((cnt (fun q => decide (q.1 < file)) (pls m.2.1 m.2.2.1 0) : Nat), (cnt (fun q => q.1 == file) (pls m.2.1 m.2.2.1 0) : Nat), 0) else (0, 0, 90)) else (0, 0, cfault m)
set_option maxHeartbeats 4000000 in
set_option maxRecDepth 100000 in
theorem refRow_any (m : MetaD) (cs : List Value) (file : Int) (w : World) (hK : KMeta.K w m cs) (hG : GMeta m) :
    Calls Try.prog 22 #[.agg cs.toArray, .int .i64 file] w fun e w' => e = .returned (.tuple #[.int .i64 (refRow m file).1, .int .i64 (refRow m file).2.1, .int .i64 (refRow m file).2.2]) ∧ Below w.heap.size w w' := by
  obtain ⟨AF, cF, AL, cL, AI, cI, AT, cT, rfl, hF, _⟩ := meta_open hK
  have q1 : m.2.2.1.length * 88 ≤ 140737488351232 := hG.2.1.1
  have HF := Aside0.mk hF
  have HK := Aside0.mk hK
  have HB0 : Aside0 (Below w.heap.size w (w.alloc (.cells #[.string m.1, .int .i64 m.2.1, .slice AF m.2.2.1.length cF, .slice AL m.2.2.2.1.length cL, .slice AI m.2.2.2.2.1.length cI, .slice AT m.2.2.2.2.2.length cT] 46))) := ⟨below_alloc (Below.refl w.heap.size w) (.cells #[.string m.1, .int .i64 m.2.1, .slice AF m.2.2.1.length cF, .slice AL m.2.2.2.1.length cL, .slice AI m.2.2.2.2.1.length cI, .slice AT m.2.2.2.2.2.length cT] 46)⟩
  have HX0 : Aside0 ((w.alloc (.cells #[.string m.1, .int .i64 m.2.1, .slice AF m.2.2.1.length cF, .slice AL m.2.2.2.1.length cL, .slice AI m.2.2.2.2.1.length cI, .slice AT m.2.2.2.2.2.length cT] 46)).heap[w.heap.size]? = some (.cells #[.string m.1, .int .i64 m.2.1, .slice AF m.2.2.1.length cF, .slice AL m.2.2.2.1.length cL, .slice AI m.2.2.2.2.1.length cI, .slice AT m.2.2.2.2.2.length cT] 46)) := ⟨heap_alloc_new w _⟩
  have HZ : Hid (∀ j u, ([.string m.1, .int .i64 m.2.1, .slice AF m.2.2.1.length cF, .slice AL m.2.2.2.1.length cL, .slice AI m.2.2.2.2.1.length cI, .slice AT m.2.2.2.2.2.length cT] : List Value)[j]? = some u → (w.alloc (.cells #[.string m.1, .int .i64 m.2.1, .slice AF m.2.2.1.length cF, .slice AL m.2.2.2.1.length cL, .slice AI m.2.2.2.2.1.length cI, .slice AT m.2.2.2.2.2.length cT] 46)).cell? ((⟨w.heap.size, 0, none⟩ : Addr).add j) = some u) := Lib.hid fun j u hj => by rw [Go.WideShapes.add_plain, Go.Joins.cell_of_block HX0.out, List.getElem?_toArray, Nat.zero_add]; exact hj
  have HG := Lib.hid hG
  have HFA := Lib.hid (refFault_any m _ _ (KMeta.K_below HB0.out hK) hG)
  clear hF hK hG
  go_enter Try.func22, Try.ntmps22
  go_wp2_with ((with_reducible refine Fl.wpList_load rfl 46 (.tmp 2) rfl (⟨w.heap.size, 0, none⟩) ?lx ([.string m.1, .int .i64 m.2.1, .slice AF m.2.2.1.length cF, .slice AL m.2.2.2.1.length cL, .slice AI m.2.2.2.2.1.length cI, .slice AT m.2.2.2.2.2.length cT]) _ ?lc Try.underlying46 rfl ?li ?_); (case lx => rfl); (case lc => exact HZ.out); (case li => exact (by kernel_rfl)))
  go_at_call 56
  refine HFA.out.mono ?_
  rintro e wr ⟨rfl, hb1⟩
  have HX := Aside0.mk (blk_below HX0.out hb1)
  have HB := Aside0.mk (below_step HB0.out hb1)
  have HZ2 : Hid (∀ j u, ([.string m.1, .int .i64 m.2.1, .slice AF m.2.2.1.length cF, .slice AL m.2.2.2.1.length cL, .slice AI m.2.2.2.2.1.length cI, .slice AT m.2.2.2.2.2.length cT] : List Value)[j]? = some u → wr.cell? ((⟨w.heap.size, 0, none⟩ : Addr).add j) = some u) := Lib.hid fun j u hj => by rw [Go.WideShapes.add_plain, Go.Joins.cell_of_block HX.out, List.getElem?_toArray, Nat.zero_add]; exact hj
  clear hb1 HX0 HB0 HZ HFA
  have hx2 : wr.cell? ⟨w.heap.size, 2, none⟩ = some (.slice AF m.2.2.1.length cF) := Go.Joins.cell_of_block HX.out 2
  by_cases hf : cfault m = 0
  · by_cases h0 : file < 0
    · have b0 : decide (file < 0) = true := decide_eq_true h0
      have e1 : refRow m file = (0, 0, 90) := by unfold refRow; rw [if_pos hf, if_neg (by omega)]
      have E1 := Lib.hid e1
      clear e1
      rw [hf]
      go_wp2
      go_ret3
      exact ⟨by rw [E1.out]; rfl, HB.out⟩
    · have b0 : decide (file < 0) = false := decide_eq_false h0
      by_cases h1 : file ≥ m.2.2.1.length
      · have b1 : decide (file ≥ (m.2.2.1.length : Int)) = true := decide_eq_true h1
        have e1 : refRow m file = (0, 0, 90) := by unfold refRow; rw [if_pos hf, if_neg (by omega)]
        have E1 := Lib.hid e1
        clear e1
        rw [hf]
        go_wp2
        go_ret3
        exact ⟨by rw [E1.out]; rfl, HB.out⟩
      · have b1 : decide (file ≥ (m.2.2.1.length : Int)) = false := decide_eq_false h1
        have e1 : refRow m file = (((cnt (fun q => decide (q.1 < file)) (pls m.2.1 m.2.2.1 0) : Nat) : Int), ((cnt (fun q => q.1 == file) (pls m.2.1 m.2.2.1 0) : Nat) : Int), 0) := by unfold refRow; rw [if_pos hf, if_pos (by omega)]
        have E1 := Lib.hid e1
        have HPL := Lib.hid (refPlaces_any m _ wr (KMeta.K_below HB.out HK.out) HG.out hf)
        have hmany := (cfault_ok hf).2.2.2.2.2
        clear e1
        rw [hf]
        go_wp2_with ((with_reducible refine Fl.wpList_load rfl 46 (.tmp 2) rfl (⟨w.heap.size, 0, none⟩) ?lx ([.string m.1, .int .i64 m.2.1, .slice AF m.2.2.1.length cF, .slice AL m.2.2.2.1.length cL, .slice AI m.2.2.2.2.1.length cI, .slice AT m.2.2.2.2.2.length cT]) _ ?lc Try.underlying46 rfl ?li ?_); (case lx => rfl); (case lc => exact HZ2.out); (case li => exact (by kernel_rfl)))
        go_at_call 57
        refine HPL.out.mono ?_
        rintro e w2 ⟨A, c, rfl, hR, hb2⟩
        have HR := Aside0.mk hR
        have HB2 := Aside0.mk (below_step HB.out hb2)
        clear hR hb2 hf HPL h0 h1 b0 b1
        generalize pls m.2.1 m.2.2.1 0 = L at *
        go_wp2
        go_loopw [8, 9, 11] (fun a b i wz => ∃ k : Nat, k ≤ L.length ∧ i = .int .i64 k ∧ a = .int .i64 (cnt (fun q => decide (q.1 < file)) (L.take k) : Nat) ∧ b = .int .i64 (cnt (fun q => q.1 == file) (L.take k) : Nat) ∧ wz = w2) (fun a b i _ => L.length - (intOf i).toNat)
        case atStart => exact ⟨0, by omega, rfl, rfl, rfl, rfl⟩
        case round =>
          obtain ⟨k, hk, rfl, rfl, rfl, rfl⟩ := hrel
          by_cases hlt : k < L.length
          · skip
            obtain ⟨ad, e0, hc⟩ := Fl.at_flat (0, 0, 0, 0) HR.out k hlt
            subst e0
            have hc0 : wr.cell? (ad.add (k * 4)) = some (.int .i64 (pxl L k).1) := hc 0 _ rfl
            have HT : Hid (L.take (k + 1) = L.take k ++ [pxl L k]) := Lib.hid (by rw [List.take_succ_eq_append_getElem hlt]; unfold pxl; rw [List.getD_eq_getElem?_getD, List.getElem?_eq_getElem hlt]; rfl)
            clear hc
            generalize pxl L k = p at *
            have c1 := cnt_snoc (fun q : PlD => decide (q.1 < file)) (L.take k) p
            have c2 := cnt_snoc (fun q : PlD => q.1 == file) (L.take k) p
            have hk1 : cnt (fun q : PlD => decide (q.1 < file)) (L.take k) ≤ k := cnt_le _ _ k
            have hk2 : cnt (fun q : PlD => q.1 == file) (L.take k) ≤ k := cnt_le _ _ k
            rw [← HT.out] at c1 c2
            have C1 := Lib.hid c1
            have C2 := Lib.hid c2
            clear c1 c2
            by_cases h1 : p.1 < file
            · have b1 : decide (p.1 < file) = true := decide_eq_true h1
              have b2 : (p.1 == file) = false := beq_eq_false_iff_ne.2 (by omega)
              go_wp2
              go_roundw
              case rel => exact ⟨k + 1, by omega, by go_num, by have := C1.out; simp only [b1] at this; rw [this]; go_num, by have := C2.out; simp only [b2] at this; rw [this]; rfl, by first | rfl | trivial⟩
              case measure => simp [intOf]; omega
            · have b1 : decide (p.1 < file) = false := decide_eq_false h1
              by_cases h2 : p.1 = file
              · have b2 : (p.1 == file) = true := beq_iff_eq.2 h2
                go_wp2
                go_roundw
                case rel => exact ⟨k + 1, by omega, by go_num, by have := C1.out; simp only [b1] at this; rw [this]; rfl, by have := C2.out; simp only [b2] at this; rw [this]; go_num, by first | rfl | trivial⟩
                case measure => simp [intOf]; omega
              · have b2 : (p.1 == file) = false := beq_eq_false_iff_ne.2 h2
                go_wp2
                go_roundw
                case rel => exact ⟨k + 1, by omega, by go_num, by have := C1.out; simp only [b1] at this; rw [this]; rfl, by have := C2.out; simp only [b2] at this; rw [this]; rfl, by first | rfl | trivial⟩
                case measure => simp [intOf]; omega
          · have ek : L.take k = L := by rw [show k = L.length by omega, List.take_length]
            rw [ek]
            go_wp2
            go_ret3
            exact ⟨by rw [E1.out]; rfl, HB2.out⟩
  · have e1 : refRow m file = (0, 0, cfault m) := by unfold refRow; rw [if_neg hf]
    have E1 := Lib.hid e1
    clear e1
    have b1 : (cfault m == 0) = false := by simp [hf]
    have b2 : (cfault m != 0) = true := by simp [hf]
    go_wp2
    go_ret3
    exact ⟨by rw [E1.out]; rfl, HB.out⟩
end Cr
end Go.Proofs.Ytjeeakhgjcbhaaa
set_option linter.unusedVariables false
set_option linter.unusedSimpArgs false
namespace Go.Proofs.Ytjeeakhgjcbhaaa
open Go.RowKit Go.Proofs.YtjeeakhgjcbhaaaW.PrintWords Go.Proofs.YtjeeakhgjcbhaaaW Go.Proofs.YtjeeakhgjcbhaaaW.PrintMore
namespace Cr
open Wd Vl Mt PCreateBlocks
theorem cRow_ok {m : MetaD} {file : Int} (h : (cRow m file).2.2 = 0) : cfault m = 0 ∧ 0 ≤ file ∧ file < m.2.2.1.length := by
  unfold cRow at h
  by_cases hf : cfault m = 0
  · rw [if_pos hf] at h
    by_cases h1 : 0 ≤ file ∧ file < m.2.2.1.length
    · exact ⟨hf, h1⟩
    · rw [if_neg h1] at h
      exact absurd h (by decide)
  · rw [if_neg hf] at h
    exact absurd h hf
/-- At, as create tells it. -/
def cAt (m : MetaD) (file off : Int) : Int × Int × Int := if (cRow m file).2.2 = 0 then (if 0 ≤ off ∧ off < (m.2.2.1.getD file.toNat f0).2.1 then (wrap64 ((cRow m file).1 + wrap64 (Int.tdiv off m.2.1)), Int.tmod off m.2.1, 0) else (0, 0, 93)) else (0, 0, (cRow m file).2.2)
set_option maxHeartbeats 4000000 in
set_option maxRecDepth 100000 in
theorem At_any (m : MetaD) (cs : List Value) (file off : Int) (w : World) (hK : KMeta.K w m cs) (hG : GMeta m) :
    Calls Try.prog 25 #[.agg cs.toArray, .int .i64 file, .int .i64 off] w fun e w' => e = .returned (.tuple #[.int .i64 (cAt m file off).1, .int .i64 (cAt m file off).2.1, .int .i64 (cAt m file off).2.2]) ∧ Below w.heap.size w w' := by
  obtain ⟨AF, cF, AL, cL, AI, cI, AT, cT, rfl, hF, _⟩ := meta_open hK
  have q1 : m.2.2.1.length * 88 ≤ 140737488351232 := hG.2.1.1
  have HF := Aside0.mk hF
  have HK := Aside0.mk hK
  have HB0 : Aside0 (Below w.heap.size w (w.alloc (.cells #[.string m.1, .int .i64 m.2.1, .slice AF m.2.2.1.length cF, .slice AL m.2.2.2.1.length cL, .slice AI m.2.2.2.2.1.length cI, .slice AT m.2.2.2.2.2.length cT] 46))) := ⟨below_alloc (Below.refl w.heap.size w) (.cells #[.string m.1, .int .i64 m.2.1, .slice AF m.2.2.1.length cF, .slice AL m.2.2.2.1.length cL, .slice AI m.2.2.2.2.1.length cI, .slice AT m.2.2.2.2.2.length cT] 46)⟩
  have HX0 : Aside0 ((w.alloc (.cells #[.string m.1, .int .i64 m.2.1, .slice AF m.2.2.1.length cF, .slice AL m.2.2.2.1.length cL, .slice AI m.2.2.2.2.1.length cI, .slice AT m.2.2.2.2.2.length cT] 46)).heap[w.heap.size]? = some (.cells #[.string m.1, .int .i64 m.2.1, .slice AF m.2.2.1.length cF, .slice AL m.2.2.2.1.length cL, .slice AI m.2.2.2.2.1.length cI, .slice AT m.2.2.2.2.2.length cT] 46)) := ⟨heap_alloc_new w _⟩
  have HZ : Hid (∀ j u, ([.string m.1, .int .i64 m.2.1, .slice AF m.2.2.1.length cF, .slice AL m.2.2.2.1.length cL, .slice AI m.2.2.2.2.1.length cI, .slice AT m.2.2.2.2.2.length cT] : List Value)[j]? = some u → (w.alloc (.cells #[.string m.1, .int .i64 m.2.1, .slice AF m.2.2.1.length cF, .slice AL m.2.2.2.1.length cL, .slice AI m.2.2.2.2.1.length cI, .slice AT m.2.2.2.2.2.length cT] 46)).cell? ((⟨w.heap.size, 0, none⟩ : Addr).add j) = some u) := Lib.hid fun j u hj => by rw [Go.WideShapes.add_plain, Go.Joins.cell_of_block HX0.out, List.getElem?_toArray, Nat.zero_add]; exact hj
  have HRA := Lib.hid (Row_any m _ file _ (KMeta.K_below HB0.out hK) hG)
  clear hF hK hG
  go_enter Try.func25, Try.ntmps25
  go_wp2_with ((with_reducible refine Fl.wpList_load rfl 46 (.tmp 3) rfl (⟨w.heap.size, 0, none⟩) ?lx ([.string m.1, .int .i64 m.2.1, .slice AF m.2.2.1.length cF, .slice AL m.2.2.2.1.length cL, .slice AI m.2.2.2.2.1.length cI, .slice AT m.2.2.2.2.2.length cT]) _ ?lc Try.underlying46 rfl ?li ?_); (case lx => rfl); (case lc => exact HZ.out); (case li => exact (by kernel_rfl)))
  go_at_call 21
  refine HRA.out.mono ?_
  rintro e wr ⟨rfl, hb1⟩
  have HX := Aside0.mk (blk_below HX0.out hb1)
  have HB := Aside0.mk (below_step HB0.out hb1)
  clear hb1 HX0 HB0 HZ HRA
  have hx1 : wr.cell? ⟨w.heap.size, 1, none⟩ = some (.int .i64 m.2.1) := Go.Joins.cell_of_block HX.out 1
  have hx2 : wr.cell? ⟨w.heap.size, 2, none⟩ = some (.slice AF m.2.2.1.length cF) := Go.Joins.cell_of_block HX.out 2
  have hcr : ∀ h : (cRow m file).2.2 = 0, _ := fun h => cRow_ok h
  have HCA : Hid (cAt m file off = if (cRow m file).2.2 = 0 then (if 0 ≤ off ∧ off < (m.2.2.1.getD file.toNat f0).2.1 then (wrap64 ((cRow m file).1 + wrap64 (Int.tdiv off m.2.1)), Int.tmod off m.2.1, 0) else (0, 0, 93)) else (0, 0, (cRow m file).2.2)) := Lib.hid rfl
  generalize (cRow m file).1 = r1 at *
  generalize (cRow m file).2.1 = r2 at *
  generalize (cRow m file).2.2 = r3 at *
  by_cases h3 : r3 = 0
  · obtain ⟨hf, hf0, hf1⟩ := hcr h3
    have hpl : m.2.1 ≠ 0 := cfault_pl hf
    have hplb : (m.2.1 == 0) = false := by simp [hpl]
    obtain ⟨k, rfl⟩ : ∃ k : Nat, file = k := ⟨file.toNat, by omega⟩
    have hlt : k < m.2.2.1.length := by omega
    obtain ⟨ad, cs, e0, hl35, hfk, hcs⟩ := at_file HF.out k hlt
    subst e0
    have hy1 : wr.cell? ⟨(ad.add (k * 35)).block, (ad.add (k * 35)).off + 1, none⟩ = some (.int .i64 (m.2.2.1.getD k f0).2.1) := cell_stay HB.out (Fl.fcell 1 (by omega) (hcs 1 _ (by obtain ⟨P, p, MM, q, rfl, _⟩ := file_open hfk; rfl)))
    have HE := HCA.out
    rw [if_pos h3, Int.toNat_natCast] at HE
    have HE' := Lib.hid HE
    clear hfk hcs hl35 HCA HE hcr
    generalize (m.2.2.1.getD k f0).2.1 = len at *
    subst h3
    by_cases h0 : off < 0
    · have b0 : decide (off < 0) = true := decide_eq_true h0
      have E1 := Lib.hid (HE'.out.trans (if_neg (by omega)))
      go_wp2
      go_ret3
      exact ⟨by rw [E1.out]; rfl, HB.out⟩
    · have b0 : decide (off < 0) = false := decide_eq_false h0
      by_cases h1 : off ≥ len
      · have b1 : decide (off ≥ len) = true := decide_eq_true h1
        have E1 := Lib.hid (HE'.out.trans (if_neg (by omega)))
        go_wp2
        go_ret3
        exact ⟨by rw [E1.out]; rfl, HB.out⟩
      · have b1 : decide (off ≥ len) = false := decide_eq_false h1
        have E1 := Lib.hid (HE'.out.trans (if_pos (by omega)))
        go_upto_region 6 with fail
        go_quiet (fail)
        go_wp2
        go_ret3
        exact ⟨by rw [E1.out, Int.tmod_eq_emod_of_nonneg (by omega)]; rfl, below_drewN HB.out _⟩
  · have E1 := Lib.hid (HCA.out.trans (if_neg h3))
    have b1 : (r3 == 0) = false := by simp [h3]
    have b2 : (r3 != 0) = true := by simp [h3]
    go_wp2
    go_ret3
    exact ⟨by rw [E1.out]; rfl, HB.out⟩
end Cr
end Go.Proofs.Ytjeeakhgjcbhaaa
